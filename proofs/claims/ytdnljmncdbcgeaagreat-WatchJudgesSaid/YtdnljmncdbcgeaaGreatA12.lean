/- tenderref08: Set, and where its answer lies. -/
import Derived.Test.YtdnljmncdbcgeaaGreatA11

namespace Go.Proofs.YtdnljmncdbcgeaaGreat
open Go.RowKit

theorem OwI.ge {w : World} {base : Nat} {A : Option Addr} {c : Nat} {L : List (List UInt8 × LV)} (h : OwI w base A c L) : ∀ b, ablk A = some b → base ≤ b := by
  intro b hb
  rcases A with _ | a
  · cases hb
  · injection hb with hb
    subst hb
    exact (own_lt h a.block rfl).1
/-- what Set gives: the same slice, or one in a block of its own -/
def RefToZ (A : Option Addr) (L : List (List UInt8 × LV)) (w w' : World) (e : Ending) (M : Int) (T : List (List UInt8 × LV)) : Prop :=
  ∃ (A' : Option Addr) (c' : Nat) (l : List (List UInt8 × LV)), e = .returned (.tuple #[.slice A' l.length c', .int .i64 M]) ∧ Hid (l = T) ∧ ((A' = A ∧ l = L) ∨ ∀ b, ablk A' = some b → w.heap.size ≤ b) ∧ Its w' A' l ∧ Below w.heap.size w w'
set_option maxRecDepth 100000 in
set_option maxHeartbeats 4000000 in
theorem refSetZ_any (A : Option Addr) (c : Nat) (L : List (List UInt8 × LV)) (p : List UInt8) (k : Int) (bA : Option Addr) (bc : Nat) (bl : List UInt8) (w : World) (h : Its w A L) (hok : TreeOk (plainL L)) (hy : BV.ok w (fun _ => True) ⟨bA, bc, bl⟩) (hp : p.length ≤ 1048576) (hn : bl.length ≤ 140737488355328) :
    Calls Tryz.prog 41 #[.slice A L.length c, .string ⟨⟨p⟩⟩, .agg #[.int .i64 k, .slice bA bl.length bc]] w fun e w' => RefToZ A L w w' e (mayS (plainL L) p (k, bl)) (if mayS (plainL L) p (k, bl) = 0 then putI L p ⟨k, ⟨bA, bc, bl⟩⟩ else L) := by
  obtain ⟨M, hM⟩ : ∃ M, M = mayS (plainL L) p (k, bl) := ⟨_, rfl⟩
  obtain ⟨T, hT⟩ : ∃ T, T = if M = 0 then putI L p ⟨k, ⟨bA, bc, bl⟩⟩ else L := ⟨_, rfl⟩
  rw [← hM, ← hT]
  have HM := Lib.hid hM
  have HA : Hid (M = 0 → Hid (T = putI L p ⟨k, ⟨bA, bc, bl⟩⟩)) := fun e => Lib.hid (by rw [hT, if_pos e])
  have HB : Hid (M ≠ 0 → Hid (L = T)) := fun e => Lib.hid (by rw [hT, if_neg e])
  have HT := Lib.hid h
  have HY := Lib.hid hy
  have hpl : (plainL L).length = L.length := by simp [plainL]
  have hLn : L.length ≤ 1000000 := by have := hok.len; rw [hpl] at this; omega
  have hb0 : Below w.heap.size w (w.alloc (.cells #[.int .i64 k, .slice bA bl.length bc] 25)) := (by repeat (first | exact Below.refl _ _ | refine Below.alloc ?_ (by simp) _ | refine Below.setCell ?_ (by simp) _ | refine Below.drew ?_))
  have x0 := Blk.new w 25 #[.int .i64 k, .slice bA bl.length bc]
  have HCK := Lib.hid (fun W => leafCheckR_any k bA bl.length bc W hn)
  clear h hM hT hy
  go_enter Tryz.func41, Tryz.ntmps41
  go_wp2_with fail
  refine (refGood_any ⟨⟨p⟩⟩ (by show p.length ≤ _; omega) _).mono ?_
  rintro e w1 ⟨rfl, hb1⟩
  rw [show tl ⟨⟨p⟩⟩ = p from rfl]
  have hw1 := hb0.trans (hb1.mono hb0.size)
  have x1 := x0.below hb1
  clear hb1 x0 hb0
  cases hg : goodB p
  · obtain rfl : M = 23 := by rw [HM.out]; unfold mayS; rw [if_pos hg]
    obtain rfl := (HB.out (by decide)).out
    clear HM
    go_wp2_with fail
    go_ret2
    exact ⟨A, c, L, rfl, rfl, .inl ⟨rfl, rfl⟩, HT.out.below hw1, hw1⟩
  · have hp96 := goodB_len hg
    have q0 : w1.cell? ⟨w.heap.size, 0, none⟩ = some (.int .i64 k) := x1.cell 0
    have q1 : w1.cell? ⟨w.heap.size, 1, none⟩ = some (.slice bA bl.length bc) := x1.cell 1
    go_wp2_with fail
    refine (HCK.out _).mono ?_
    rintro e w2 ⟨rfl, hb2⟩
    have hw2 := hw1.trans (hb2.mono hw1.size)
    have x2 := x1.below hb2
    clear q0 q1 hb2 x1 hw1 HCK
    by_cases hc : checkN k bl.length = 0
    · rw [hc]
      have q0 : w2.cell? ⟨w.heap.size, 0, none⟩ = some (.int .i64 k) := x2.cell 0
      have HM1 : Hid (M = if k ≠ 2 ∧ ((keysR (plainL L)).filter fun q => underB q p) ≠ [] then 22 else if k = 0 then 0 else (if (parT p).2 = true ∧ kindL (getR (plainL L) (parT p).1) ≠ 2 then 22 else if (getR (plainL L) p).isNone ∧ 128 ≤ (plainL L).length then 24 else 0)) := by
        show _ = _
        rw [HM.out]
        unfold mayS
        rw [if_neg (by rw [hg]; simp), if_neg (by simpa using hc)]
      clear HM
      have hk := checkN_kind hc
      clear hc
      rcases hk with rfl | rfl | rfl
      · have HM : Hid (M = if ((keysR (plainL L)).filter fun q => underB q p) ≠ [] then 22 else 0) := by
          show _ = _
          rw [HM1.out]
          simp
        clear HM1
        go_wp2_with fail
        refine (refBelow_any A c L p w2 (HT.out.below hw2) hp).mono ?_
        rintro e w3 ⟨⟨A3, c3, l3, rfl, hl3, _⟩, hb3⟩
        have hw3 := hw2.trans (hb3.mono hw2.size)
        have xb := x2.below hb3
        have hlk : ((keysR (plainL L)).filter fun q => underB q p) = l3 := by rw [keys_plain]; exact hl3.out.symm
        rw [hlk] at HM
        clear hl3 hlk q0 x2 hb3
        have q0 : w3.cell? ⟨w.heap.size, 0, none⟩ = some (.int .i64 0) := xb.cell 0
        rcases l3 with _ | ⟨y, l3⟩
        · rw [if_neg (by simp)] at HM
          go_wp2_with fail
          obtain rfl : M = 0 := HM.out
          have hTv := HA.out rfl
          clear HM
          refine (refWithout_any A c L p w3 (HT.out.below hw3)).mono ?_
          rintro e w7 ⟨⟨A7, c7, l7, rfl, hl7, ho7⟩, hb7⟩
          have hw7 := hw3.trans (hb7.mono hw3.size)
          have HO7 := Lib.hid ho7
          have hI7 : Its w7 A7 l7 := by
            rw [hl7.out] at ho7 ⊢
            exact HT.out.without ho7 hw7
          have e7 : Hid (l7 = T) := by show _ = _; rw [hl7.out, hTv.out]; rfl
          have hz7 : ∀ b, ablk A7 = some b → w.heap.size ≤ b := fun b hb => Nat.le_trans (by first | exact hw6.size | exact hw3.size) (OwI.ge HO7.out b hb)
          clear hl7 ho7
          go_wp2_with fail
          go_ret2
          exact ⟨A7, c7, l7, rfl, e7, .inr hz7, hI7, hw7⟩
        · rw [if_pos (by simp)] at HM
          obtain rfl : M = 22 := HM.out
          obtain rfl := (HB.out (by decide)).out
          have hl0 : 0 < (y :: l3).length := by simp
          generalize (y :: l3).length = n3 at *
          clear HM
          go_wp2_with fail
          go_ret2
          exact ⟨A, c, L, rfl, rfl, .inl ⟨rfl, rfl⟩, HT.out.below hw3, hw3⟩

      · have HM : Hid (M = if ((keysR (plainL L)).filter fun q => underB q p) ≠ [] then 22 else (if (parT p).2 = true ∧ kindL (getR (plainL L) (parT p).1) ≠ 2 then 22 else if (getR (plainL L) p).isNone ∧ 128 ≤ (plainL L).length then 24 else 0)) := by
          show _ = _
          rw [HM1.out]
          simp
        clear HM1
        go_wp2_with fail
        refine (refBelow_any A c L p w2 (HT.out.below hw2) hp).mono ?_
        rintro e w3 ⟨⟨A3, c3, l3, rfl, hl3, _⟩, hb3⟩
        have hw3 := hw2.trans (hb3.mono hw2.size)
        have xb := x2.below hb3
        have hlk : ((keysR (plainL L)).filter fun q => underB q p) = l3 := by rw [keys_plain]; exact hl3.out.symm
        rw [hlk] at HM
        clear hl3 hlk q0 x2 hb3
        have q0 : w3.cell? ⟨w.heap.size, 0, none⟩ = some (.int .i64 1) := xb.cell 0
        rcases l3 with _ | ⟨y, l3⟩
        · rw [if_neg (by simp)] at HM
          go_wp2_with fail
          clear q0
          refine (refParent_any ⟨⟨p⟩⟩ (by show p.length ≤ _; omega) w3).mono ?_
          rintro e w4 ⟨⟨⟨t⟩⟩, rfl, ht, hb4⟩
          rw [show tl ⟨⟨p⟩⟩ = p from rfl, show tl ⟨⟨t⟩⟩ = t from rfl] at ht
          have htl : t.length ≤ 96 := by rw [ht.out]; exact parT_len p
          have hpo := par_ne p
          rw [← ht.out] at hpo HM
          have hw4 := hw3.trans (hb4.mono hw3.size)
          have xb4 := xb.below hb4
          clear ht hb4 xb
          by_cases ht0 : t = []
          · subst ht0
            rw [if_neg (by rw [hpo]; simp)] at HM
            clear hpo
            go_wp2_with fail
            refine (refGet08_any A c L p w4 (HT.out.below hw4) (by omega)).mono ?_
            rintro e w6 ⟨rfl, hb6⟩
            have hw6 := hw4.trans (hb6.mono hw4.size)
            have xb6 := xb4.below hb6
            clear hb6 xb4
            have hkn := kind_none hok p
            rw [get_plain] at hkn HM
            obtain ⟨vv, hv⟩ := leafO_form (getR L p)
            rw [hv]
            generalize kindL ((getR L p).map LV.p) = kp at *
            have hfk := fun W => leaf_kind kp vv W
            clear hv
            by_cases hk0 : kp = 0
            · subst hk0
              have hin := hkn.1 rfl
              rw [hin] at HM
              by_cases h128 : 128 ≤ L.length
              · obtain rfl : M = 24 := by rw [HM.out, if_pos ⟨rfl, by rw [hpl]; exact h128⟩]
                obtain rfl := (HB.out (by decide)).out
                clear HM hkn hin
                go_wp2_with fail
                go_ret2
                exact ⟨A, c, L, rfl, rfl, .inl ⟨rfl, rfl⟩, HT.out.below hw6, hw6⟩
              · obtain rfl : M = 0 := by rw [HM.out, if_neg (fun e => h128 (by rw [← hpl]; exact e.2))]
                have hTv := HA.out rfl
                clear HM hkn hin
                have q0 : w6.cell? ⟨w.heap.size, 0, none⟩ = some (.int .i64 1) := xb6.cell 0
                have q1 : w6.cell? ⟨w.heap.size, 1, none⟩ = some (.slice bA bl.length bc) := xb6.cell 1
                go_wp2_with fail
                refine (refPut_any A c L p 1 bA bc bl w6 (HT.out.below hw6) hp hLn).mono ?_
                rintro e w7 ⟨⟨A7, c7, l7, rfl, hl7, ho7⟩, hb7⟩
                have hw7 := hw6.trans (hb7.mono hw6.size)
                have HO7 := Lib.hid ho7
                have hI7 : Its w7 A7 l7 := by
                  rw [hl7.out] at ho7 ⊢
                  exact HT.out.putI ho7 HY.out hp hn hLn hw7
                have e7 : Hid (l7 = T) := by show _ = _; rw [hl7.out, hTv.out]
                have hz7 : ∀ b, ablk A7 = some b → w.heap.size ≤ b := fun b hb => Nat.le_trans (by first | exact hw6.size | exact hw3.size) (OwI.ge HO7.out b hb)
                clear hl7 ho7
                go_wp2_with fail
                go_ret2
                exact ⟨A7, c7, l7, rfl, e7, .inr hz7, hI7, hw7⟩
            · have hk0b : (kp == 0) = false := by simpa using hk0
              obtain rfl : M = 0 := by rw [HM.out, if_neg (fun e => hk0 (hkn.2 e.1))]
              have hTv := HA.out rfl
              clear HM hkn hk0
              have q0 : w6.cell? ⟨w.heap.size, 0, none⟩ = some (.int .i64 1) := xb6.cell 0
              have q1 : w6.cell? ⟨w.heap.size, 1, none⟩ = some (.slice bA bl.length bc) := xb6.cell 1
              go_wp2_with fail
              refine (refPut_any A c L p 1 bA bc bl w6 (HT.out.below hw6) hp hLn).mono ?_
              rintro e w7 ⟨⟨A7, c7, l7, rfl, hl7, ho7⟩, hb7⟩
              have hw7 := hw6.trans (hb7.mono hw6.size)
              have HO7 := Lib.hid ho7
              have hI7 : Its w7 A7 l7 := by
                rw [hl7.out] at ho7 ⊢
                exact HT.out.putI ho7 HY.out hp hn hLn hw7
              have e7 : Hid (l7 = T) := by show _ = _; rw [hl7.out, hTv.out]
              have hz7 : ∀ b, ablk A7 = some b → w.heap.size ≤ b := fun b hb => Nat.le_trans (by first | exact hw6.size | exact hw3.size) (OwI.ge HO7.out b hb)
              clear hl7 ho7
              go_wp2_with fail
              go_ret2
              exact ⟨A7, c7, l7, rfl, e7, .inr hz7, hI7, hw7⟩
          · have htb : (t == []) = false := by simpa using ht0
            have h2t : (parT p).2 = true := hpo.2 ht0
            rw [h2t, get_plain] at HM
            clear hpo h2t
            go_wp2_with fail
            refine (refGet08_any A c L t w4 (HT.out.below hw4) (by omega)).mono ?_
            rintro e w5 ⟨rfl, hb5⟩
            have hw5 := hw4.trans (hb5.mono hw4.size)
            have xb5 := xb4.below hb5
            clear hb5 xb4
            obtain ⟨vt, hvt⟩ := leafO_form (getR L t)
            rw [hvt]
            generalize kindL ((getR L t).map LV.p) = kt at *
            have hft := fun W => leaf_kind kt vt W
            clear hvt
            by_cases hk2 : kt = 2
            · subst hk2
              rw [if_neg (by simp)] at HM
              go_wp2_with fail
              refine (refGet08_any A c L p w5 (HT.out.below hw5) (by omega)).mono ?_
              rintro e w6 ⟨rfl, hb6⟩
              have hw6 := hw5.trans (hb6.mono hw5.size)
              have xb6 := xb5.below hb6
              clear hb6 xb5
              have hkn := kind_none hok p
              rw [get_plain] at hkn HM
              obtain ⟨vv, hv⟩ := leafO_form (getR L p)
              rw [hv]
              generalize kindL ((getR L p).map LV.p) = kp at *
              have hfk := fun W => leaf_kind kp vv W
              clear hv
              by_cases hk0 : kp = 0
              · subst hk0
                have hin := hkn.1 rfl
                rw [hin] at HM
                by_cases h128 : 128 ≤ L.length
                · obtain rfl : M = 24 := by rw [HM.out, if_pos ⟨rfl, by rw [hpl]; exact h128⟩]
                  obtain rfl := (HB.out (by decide)).out
                  clear HM hkn hin
                  go_wp2_with fail
                  go_ret2
                  exact ⟨A, c, L, rfl, rfl, .inl ⟨rfl, rfl⟩, HT.out.below hw6, hw6⟩
                · obtain rfl : M = 0 := by rw [HM.out, if_neg (fun e => h128 (by rw [← hpl]; exact e.2))]
                  have hTv := HA.out rfl
                  clear HM hkn hin
                  have q0 : w6.cell? ⟨w.heap.size, 0, none⟩ = some (.int .i64 1) := xb6.cell 0
                  have q1 : w6.cell? ⟨w.heap.size, 1, none⟩ = some (.slice bA bl.length bc) := xb6.cell 1
                  go_wp2_with fail
                  refine (refPut_any A c L p 1 bA bc bl w6 (HT.out.below hw6) hp hLn).mono ?_
                  rintro e w7 ⟨⟨A7, c7, l7, rfl, hl7, ho7⟩, hb7⟩
                  have hw7 := hw6.trans (hb7.mono hw6.size)
                  have HO7 := Lib.hid ho7
                  have hI7 : Its w7 A7 l7 := by
                    rw [hl7.out] at ho7 ⊢
                    exact HT.out.putI ho7 HY.out hp hn hLn hw7
                  have e7 : Hid (l7 = T) := by show _ = _; rw [hl7.out, hTv.out]
                  have hz7 : ∀ b, ablk A7 = some b → w.heap.size ≤ b := fun b hb => Nat.le_trans (by first | exact hw6.size | exact hw3.size) (OwI.ge HO7.out b hb)
                  clear hl7 ho7
                  go_wp2_with fail
                  go_ret2
                  exact ⟨A7, c7, l7, rfl, e7, .inr hz7, hI7, hw7⟩
              · have hk0b : (kp == 0) = false := by simpa using hk0
                obtain rfl : M = 0 := by rw [HM.out, if_neg (fun e => hk0 (hkn.2 e.1))]
                have hTv := HA.out rfl
                clear HM hkn hk0
                have q0 : w6.cell? ⟨w.heap.size, 0, none⟩ = some (.int .i64 1) := xb6.cell 0
                have q1 : w6.cell? ⟨w.heap.size, 1, none⟩ = some (.slice bA bl.length bc) := xb6.cell 1
                go_wp2_with fail
                refine (refPut_any A c L p 1 bA bc bl w6 (HT.out.below hw6) hp hLn).mono ?_
                rintro e w7 ⟨⟨A7, c7, l7, rfl, hl7, ho7⟩, hb7⟩
                have hw7 := hw6.trans (hb7.mono hw6.size)
                have HO7 := Lib.hid ho7
                have hI7 : Its w7 A7 l7 := by
                  rw [hl7.out] at ho7 ⊢
                  exact HT.out.putI ho7 HY.out hp hn hLn hw7
                have e7 : Hid (l7 = T) := by show _ = _; rw [hl7.out, hTv.out]
                have hz7 : ∀ b, ablk A7 = some b → w.heap.size ≤ b := fun b hb => Nat.le_trans (by first | exact hw6.size | exact hw3.size) (OwI.ge HO7.out b hb)
                clear hl7 ho7
                go_wp2_with fail
                go_ret2
                exact ⟨A7, c7, l7, rfl, e7, .inr hz7, hI7, hw7⟩
            · have hk2b : (kt != 2) = true := by simpa using hk2
              obtain rfl : M = 22 := by rw [HM.out, if_pos ⟨trivial, hk2⟩]
              obtain rfl := (HB.out (by decide)).out
              clear HM hk2
              go_wp2_with fail
              go_ret2
              exact ⟨A, c, L, rfl, rfl, .inl ⟨rfl, rfl⟩, HT.out.below hw5, hw5⟩

        · rw [if_pos (by simp)] at HM
          obtain rfl : M = 22 := HM.out
          obtain rfl := (HB.out (by decide)).out
          have hl0 : 0 < (y :: l3).length := by simp
          generalize (y :: l3).length = n3 at *
          clear HM
          go_wp2_with fail
          go_ret2
          exact ⟨A, c, L, rfl, rfl, .inl ⟨rfl, rfl⟩, HT.out.below hw3, hw3⟩

      · have HM : Hid (M = (if (parT p).2 = true ∧ kindL (getR (plainL L) (parT p).1) ≠ 2 then 22 else if (getR (plainL L) p).isNone ∧ 128 ≤ (plainL L).length then 24 else 0)) := by
          show _ = _
          rw [HM1.out]
          simp
        clear HM1
        go_wp2_with fail
        have xb := x2
        clear x2
        clear q0
        refine (refParent_any ⟨⟨p⟩⟩ (by show p.length ≤ _; omega) w2).mono ?_
        rintro e w4 ⟨⟨⟨t⟩⟩, rfl, ht, hb4⟩
        rw [show tl ⟨⟨p⟩⟩ = p from rfl, show tl ⟨⟨t⟩⟩ = t from rfl] at ht
        have htl : t.length ≤ 96 := by rw [ht.out]; exact parT_len p
        have hpo := par_ne p
        rw [← ht.out] at hpo HM
        have hw4 := hw2.trans (hb4.mono hw2.size)
        have xb4 := xb.below hb4
        clear ht hb4 xb
        by_cases ht0 : t = []
        · subst ht0
          rw [if_neg (by rw [hpo]; simp)] at HM
          clear hpo
          go_wp2_with fail
          refine (refGet08_any A c L p w4 (HT.out.below hw4) (by omega)).mono ?_
          rintro e w6 ⟨rfl, hb6⟩
          have hw6 := hw4.trans (hb6.mono hw4.size)
          have xb6 := xb4.below hb6
          clear hb6 xb4
          have hkn := kind_none hok p
          rw [get_plain] at hkn HM
          obtain ⟨vv, hv⟩ := leafO_form (getR L p)
          rw [hv]
          generalize kindL ((getR L p).map LV.p) = kp at *
          have hfk := fun W => leaf_kind kp vv W
          clear hv
          by_cases hk0 : kp = 0
          · subst hk0
            have hin := hkn.1 rfl
            rw [hin] at HM
            by_cases h128 : 128 ≤ L.length
            · obtain rfl : M = 24 := by rw [HM.out, if_pos ⟨rfl, by rw [hpl]; exact h128⟩]
              obtain rfl := (HB.out (by decide)).out
              clear HM hkn hin
              go_wp2_with fail
              go_ret2
              exact ⟨A, c, L, rfl, rfl, .inl ⟨rfl, rfl⟩, HT.out.below hw6, hw6⟩
            · obtain rfl : M = 0 := by rw [HM.out, if_neg (fun e => h128 (by rw [← hpl]; exact e.2))]
              have hTv := HA.out rfl
              clear HM hkn hin
              have q0 : w6.cell? ⟨w.heap.size, 0, none⟩ = some (.int .i64 2) := xb6.cell 0
              have q1 : w6.cell? ⟨w.heap.size, 1, none⟩ = some (.slice bA bl.length bc) := xb6.cell 1
              go_wp2_with fail
              refine (refPut_any A c L p 2 bA bc bl w6 (HT.out.below hw6) hp hLn).mono ?_
              rintro e w7 ⟨⟨A7, c7, l7, rfl, hl7, ho7⟩, hb7⟩
              have hw7 := hw6.trans (hb7.mono hw6.size)
              have HO7 := Lib.hid ho7
              have hI7 : Its w7 A7 l7 := by
                rw [hl7.out] at ho7 ⊢
                exact HT.out.putI ho7 HY.out hp hn hLn hw7
              have e7 : Hid (l7 = T) := by show _ = _; rw [hl7.out, hTv.out]
              have hz7 : ∀ b, ablk A7 = some b → w.heap.size ≤ b := fun b hb => Nat.le_trans (by first | exact hw6.size | exact hw3.size) (OwI.ge HO7.out b hb)
              clear hl7 ho7
              go_wp2_with fail
              go_ret2
              exact ⟨A7, c7, l7, rfl, e7, .inr hz7, hI7, hw7⟩
          · have hk0b : (kp == 0) = false := by simpa using hk0
            obtain rfl : M = 0 := by rw [HM.out, if_neg (fun e => hk0 (hkn.2 e.1))]
            have hTv := HA.out rfl
            clear HM hkn hk0
            have q0 : w6.cell? ⟨w.heap.size, 0, none⟩ = some (.int .i64 2) := xb6.cell 0
            have q1 : w6.cell? ⟨w.heap.size, 1, none⟩ = some (.slice bA bl.length bc) := xb6.cell 1
            go_wp2_with fail
            refine (refPut_any A c L p 2 bA bc bl w6 (HT.out.below hw6) hp hLn).mono ?_
            rintro e w7 ⟨⟨A7, c7, l7, rfl, hl7, ho7⟩, hb7⟩
            have hw7 := hw6.trans (hb7.mono hw6.size)
            have HO7 := Lib.hid ho7
            have hI7 : Its w7 A7 l7 := by
              rw [hl7.out] at ho7 ⊢
              exact HT.out.putI ho7 HY.out hp hn hLn hw7
            have e7 : Hid (l7 = T) := by show _ = _; rw [hl7.out, hTv.out]
            have hz7 : ∀ b, ablk A7 = some b → w.heap.size ≤ b := fun b hb => Nat.le_trans (by first | exact hw6.size | exact hw3.size) (OwI.ge HO7.out b hb)
            clear hl7 ho7
            go_wp2_with fail
            go_ret2
            exact ⟨A7, c7, l7, rfl, e7, .inr hz7, hI7, hw7⟩
        · have htb : (t == []) = false := by simpa using ht0
          have h2t : (parT p).2 = true := hpo.2 ht0
          rw [h2t, get_plain] at HM
          clear hpo h2t
          go_wp2_with fail
          refine (refGet08_any A c L t w4 (HT.out.below hw4) (by omega)).mono ?_
          rintro e w5 ⟨rfl, hb5⟩
          have hw5 := hw4.trans (hb5.mono hw4.size)
          have xb5 := xb4.below hb5
          clear hb5 xb4
          obtain ⟨vt, hvt⟩ := leafO_form (getR L t)
          rw [hvt]
          generalize kindL ((getR L t).map LV.p) = kt at *
          have hft := fun W => leaf_kind kt vt W
          clear hvt
          by_cases hk2 : kt = 2
          · subst hk2
            rw [if_neg (by simp)] at HM
            go_wp2_with fail
            refine (refGet08_any A c L p w5 (HT.out.below hw5) (by omega)).mono ?_
            rintro e w6 ⟨rfl, hb6⟩
            have hw6 := hw5.trans (hb6.mono hw5.size)
            have xb6 := xb5.below hb6
            clear hb6 xb5
            have hkn := kind_none hok p
            rw [get_plain] at hkn HM
            obtain ⟨vv, hv⟩ := leafO_form (getR L p)
            rw [hv]
            generalize kindL ((getR L p).map LV.p) = kp at *
            have hfk := fun W => leaf_kind kp vv W
            clear hv
            by_cases hk0 : kp = 0
            · subst hk0
              have hin := hkn.1 rfl
              rw [hin] at HM
              by_cases h128 : 128 ≤ L.length
              · obtain rfl : M = 24 := by rw [HM.out, if_pos ⟨rfl, by rw [hpl]; exact h128⟩]
                obtain rfl := (HB.out (by decide)).out
                clear HM hkn hin
                go_wp2_with fail
                go_ret2
                exact ⟨A, c, L, rfl, rfl, .inl ⟨rfl, rfl⟩, HT.out.below hw6, hw6⟩
              · obtain rfl : M = 0 := by rw [HM.out, if_neg (fun e => h128 (by rw [← hpl]; exact e.2))]
                have hTv := HA.out rfl
                clear HM hkn hin
                have q0 : w6.cell? ⟨w.heap.size, 0, none⟩ = some (.int .i64 2) := xb6.cell 0
                have q1 : w6.cell? ⟨w.heap.size, 1, none⟩ = some (.slice bA bl.length bc) := xb6.cell 1
                go_wp2_with fail
                refine (refPut_any A c L p 2 bA bc bl w6 (HT.out.below hw6) hp hLn).mono ?_
                rintro e w7 ⟨⟨A7, c7, l7, rfl, hl7, ho7⟩, hb7⟩
                have hw7 := hw6.trans (hb7.mono hw6.size)
                have HO7 := Lib.hid ho7
                have hI7 : Its w7 A7 l7 := by
                  rw [hl7.out] at ho7 ⊢
                  exact HT.out.putI ho7 HY.out hp hn hLn hw7
                have e7 : Hid (l7 = T) := by show _ = _; rw [hl7.out, hTv.out]
                have hz7 : ∀ b, ablk A7 = some b → w.heap.size ≤ b := fun b hb => Nat.le_trans (by first | exact hw6.size | exact hw3.size) (OwI.ge HO7.out b hb)
                clear hl7 ho7
                go_wp2_with fail
                go_ret2
                exact ⟨A7, c7, l7, rfl, e7, .inr hz7, hI7, hw7⟩
            · have hk0b : (kp == 0) = false := by simpa using hk0
              obtain rfl : M = 0 := by rw [HM.out, if_neg (fun e => hk0 (hkn.2 e.1))]
              have hTv := HA.out rfl
              clear HM hkn hk0
              have q0 : w6.cell? ⟨w.heap.size, 0, none⟩ = some (.int .i64 2) := xb6.cell 0
              have q1 : w6.cell? ⟨w.heap.size, 1, none⟩ = some (.slice bA bl.length bc) := xb6.cell 1
              go_wp2_with fail
              refine (refPut_any A c L p 2 bA bc bl w6 (HT.out.below hw6) hp hLn).mono ?_
              rintro e w7 ⟨⟨A7, c7, l7, rfl, hl7, ho7⟩, hb7⟩
              have hw7 := hw6.trans (hb7.mono hw6.size)
              have HO7 := Lib.hid ho7
              have hI7 : Its w7 A7 l7 := by
                rw [hl7.out] at ho7 ⊢
                exact HT.out.putI ho7 HY.out hp hn hLn hw7
              have e7 : Hid (l7 = T) := by show _ = _; rw [hl7.out, hTv.out]
              have hz7 : ∀ b, ablk A7 = some b → w.heap.size ≤ b := fun b hb => Nat.le_trans (by first | exact hw6.size | exact hw3.size) (OwI.ge HO7.out b hb)
              clear hl7 ho7
              go_wp2_with fail
              go_ret2
              exact ⟨A7, c7, l7, rfl, e7, .inr hz7, hI7, hw7⟩
          · have hk2b : (kt != 2) = true := by simpa using hk2
            obtain rfl : M = 22 := by rw [HM.out, if_pos ⟨trivial, hk2⟩]
            obtain rfl := (HB.out (by decide)).out
            clear HM hk2
            go_wp2_with fail
            go_ret2
            exact ⟨A, c, L, rfl, rfl, .inl ⟨rfl, rfl⟩, HT.out.below hw5, hw5⟩

    · obtain rfl : M = checkN k bl.length := by rw [HM.out]; unfold mayS; rw [if_neg (by rw [hg]; simp), if_pos (by simpa using hc)]
      obtain rfl := (HB.out hc).out
      have hcb : (checkN k bl.length != 0) = true := by simpa using hc
      clear HM
      go_wp2_with fail
      go_ret2
      exact ⟨A, c, L, rfl, rfl, .inl ⟨rfl, rfl⟩, HT.out.below hw2, hw2⟩

end Go.Proofs.YtdnljmncdbcgeaaGreat

/- tenderlaw42: what stands in memory while a log is made. -/
namespace Go.Proofs.YtdnljmncdbcgeaaGreat
open Go.RowKit Go.Maps

/-- both trees behind so many steps -/
def stepT (P : List (List UInt8 × LP) × List (List UInt8 × LP)) (s : SV) : List (List UInt8 × LP) × List (List UInt8 × LP) :=
  if s.th = true then (P.1, setS P.2 s.x.1 s.x.2.p) else (setS P.1 s.x.1 s.x.2.p, P.2)
def stateS (l : List SV) : List (List UInt8 × LP) × List (List UInt8 × LP) := l.foldl stepT ([], [])
/-- the moments of steps -/
def momS (l : List SV) : List (List (List UInt8 × LP) × List (List UInt8 × LP)) := (List.range l.length).map fun i => stateS (l.take (i + 1))
theorem state_take {l : List SV} {i : Nat} (h : i < l.length) : stateS (l.take (i + 1)) = stepT (stateS (l.take i)) l[i] := by
  unfold stateS
  rw [List.take_succ_eq_append_getElem h, List.foldl_append]
  rfl
theorem mom_take {l : List SV} {i : Nat} (h : i < l.length) : momS (l.take (i + 1)) = momS (l.take i) ++ [stateS (l.take (i + 1))] := by
  unfold momS
  have h1 : (l.take (i + 1)).length = i + 1 := by rw [List.length_take]; omega
  have h2 : (l.take i).length = i := by rw [List.length_take]; omega
  rw [h1, h2, List.range_succ, List.map_append, List.map_cons, List.map_nil, List.take_take, Nat.min_self]
  congr 1
  apply List.map_congr_left
  intro j hj
  have := List.mem_range.1 hj
  rw [List.take_take, List.take_take, show min (j + 1) (i + 1) = j + 1 by omega, show min (j + 1) i = j + 1 by omega]
theorem mom_len (l : List SV) : (momS l).length = l.length := by simp [momS]
/-- a row of the document's items: where it lies, and that its bytes came in -/
structure ItsZ (w : World) (Z : Nat → Prop) (B0 : Nat) (A : Option Addr) (L : List (List UInt8 × LV)) : Prop where
  its : Its w A L
  blk : 0 < L.length → ∀ b, ablk A = some b → Z b
  ok : ∀ x ∈ L, x.2.x.ok w (fun b => b < B0)
namespace ItsZ
variable {w w' : World} {Z Z' : Nat → Prop} {B0 : Nat} {A : Option Addr} {L : List (List UInt8 × LV)}
theorem rdZ (h : ItsZ w Z B0 A L) : Rd w (fun b => Z b) 3 A L.length (L.flatMap itemC) :=
  ⟨h.its.rd.1, fun hn => by
    obtain ⟨b, off, hA, _, hb, hc⟩ := h.its.rd.2 hn
    exact ⟨b, off, hA, h.blk (by omega) b (by rw [hA]; rfl), hb, hc⟩⟩
theorem fr {S : Nat → Prop} (h : ItsZ w Z B0 A L) (k : Fr S w w') (hZ : ∀ b, b < w.heap.size → Z b → ¬ S b) (hB : ∀ b, b < B0 → ¬ S b) : ItsZ w' Z B0 A L :=
  ⟨⟨(h.rdZ.fr k hZ).mono (fun _ _ _ => trivial), fun x hx => ((h.ok x hx).fr k (fun b _ hb => hB b hb)).mono (fun _ _ _ => trivial), h.its.len, h.its.txt⟩, h.blk, fun x hx => (h.ok x hx).fr k (fun b _ hb => hB b hb)⟩
theorem mono (h : ItsZ w Z B0 A L) (hz : ∀ b, b < w.heap.size → Z b → Z' b) : ItsZ w Z' B0 A L :=
  ⟨h.its, fun hn b hb => by
    obtain ⟨b', off, hA, hZ, hb', _⟩ := h.rdZ.2 (by omega)
    have e : b' = b := by rw [hA] at hb; injection hb
    exact hz b (e ▸ hb') (h.blk hn b hb), h.ok⟩
theorem nil (w : World) (Z : Nat → Prop) (B0 : Nat) : ItsZ w Z B0 none [] := ⟨Its.nil w, fun h => by simp at h, by simp⟩
end ItsZ
/-- a moment of the document's -/
structure MO where
  A : Option Addr
  c : Nat
  L : List (List UInt8 × LV)
  B : Option Addr
  d : Nat
  M : List (List UInt8 × LV)
def MO.cells (x : MO) : List Value := [.slice x.A x.L.length x.c, .slice x.B x.M.length x.d]
def MO.pl (x : MO) : List (List UInt8 × LP) × List (List UInt8 × LP) := (plainL x.L, plainL x.M)
theorem mo_len (x : MO) : x.cells.length = 2 := rfl
theorem mo_info : (Tryz.prog.info? 91).map (fun i => (i.zero, i.size, i.bytes)) = some (some (.agg #[.slice none 0 0, .slice none 0 0]), 2, 48) := by kernel_rfl
theorem mo_one (l : List MO) : ∀ u ∈ l.flatMap MO.cells, u.oneCell' = true := by
  intro u hu
  obtain ⟨x, _, hx⟩ := List.mem_flatMap.1 hu
  simp only [MO.cells, List.mem_cons, List.not_mem_nil, or_false] at hx
  rcases hx with rfl | rfl <;> rfl
/-- the blocks that an operation on component E may write -/
def clsW (E c : Nat) : Prop := c = E ∨ (E = 3 ∧ (c = 4 ∨ c = 7))
/-- all that stands; component E (0: none) is left out -/
structure Inv (E : Nat) (w : World) (col : Nat → Nat) (B0 gb ta tb mvb : Nat) (La Lb : List (List UInt8 × LV)) (H K : List (List (List UInt8 × LP))) (mv : MO) (WA : Option Addr) (wc : Nat) (MS : List MO) : Prop where
  c0 : ∀ b, b < B0 → col b = 0
  ta : E ≠ 1 → TreeQ w (fun b => col b = 1) (some ⟨ta, 0, none⟩) La
  tb : E ≠ 2 → TreeQ w (fun b => col b = 2) (some ⟨tb, 0, none⟩) Lb
  log : E ≠ 3 → LogAt w col gb H K
  i0 : ItsZ w (fun b => col b = 5) B0 mv.A mv.L
  i1 : ItsZ w (fun b => col b = 5) B0 mv.B mv.M
  mv : E ≠ 8 → Blk w mvb 91 #[.slice mv.A mv.L.length mv.c, .slice mv.B mv.M.length mv.d]
  mc : E ≠ 8 → col mvb = 8
  row : E ≠ 6 → Row w 0 91 2 WA MS.length wc (MS.flatMap MO.cells)
  rc : E ≠ 6 → ∀ b, ablk WA = some b → col b = 6
  ms : ∀ x ∈ MS, ItsZ w (fun b => col b = 5) B0 x.A x.L ∧ ItsZ w (fun b => col b = 5) B0 x.B x.M
theorem LogAt.lift {w w' : World} {col : Nat → Nat} {gb : Nat} {H K : List (List (List UInt8 × LP))} {S : Nat → Prop} (h : LogAt w col gb H K) (k : Fr S w w') (hs : ∀ b, b < w.heap.size → S b → col b ≠ 3 ∧ col b ≠ 4 ∧ col b ≠ 7) (hn : NoB w S) : LogAt w' col gb H K := by
  obtain ⟨v0, m0, v1, m1, L0, R0, L1, R1, h1, h2, h3, h4, h5⟩ := h.at_
  exact ⟨⟨v0, m0, v1, m1, L0, R0, L1, R1, h1.fr k (fun e => (hs _ h1.lt e).2.2 h.col),
    ((h2.mono (C' := fun b => col b = 3 ∧ b < w.heap.size) (fun b hb e => ⟨e, hb⟩)).fr k (fun b hb e => (hs b hb.2 e).1 hb.1) hn).mono (fun _ _ e => e.1),
    ((h3.mono (C' := fun b => col b = 4 ∧ b < w.heap.size) (fun b hb e => ⟨e, hb⟩)).fr k (fun b hb e => (hs b hb.2 e).2.1 hb.1) hn).mono (fun _ _ e => e.1), h4, h5⟩, h.col, h.len⟩
theorem TreeQ.lift {w w' : World} {S C C' : Nat → Prop} {v : Option Addr} {L : List (List UInt8 × LV)} (h : TreeQ w C v L) (k : Fr S w w') (hn : NoB w S) (hc : ∀ b, b < w.heap.size → C b → C' b ∧ ¬ S b) : TreeQ w' C' v L :=
  ((h.mono (C' := fun b => C' b ∧ ¬ S b) hc).fr k (fun _ h => h.2) hn).mono (fun _ _ h => h.1)
theorem ItsZ.lift {w w' : World} {S Z Z' : Nat → Prop} {B0 : Nat} {A : Option Addr} {L : List (List UInt8 × LV)} (h : ItsZ w Z B0 A L) (k : Fr S w w') (hc : ∀ b, b < w.heap.size → Z b → Z' b ∧ ¬ S b) (hB : ∀ b, b < B0 → ¬ S b) : ItsZ w' Z' B0 A L :=
  ((h.mono (Z' := fun b => Z' b ∧ ¬ S b) hc).fr k (fun _ _ h => h.2) hB).mono (fun _ _ h => h.1)
variable {w w' : World} {col col' : Nat → Nat} {B0 gb ta tb mvb : Nat} {La Lb : List (List UInt8 × LV)} {H K : List (List (List UInt8 × LP))} {mv : MO} {WA : Option Addr} {wc : Nat} {MS : List MO}
/-- one operation: it writes what is of class E alone -/
theorem Inv.step {S : Nat → Prop} (h : Inv 0 w col B0 gb ta tb mvb La Lb H K mv WA wc MS) (E : Nat) (hE : E = 1 ∨ E = 2 ∨ E = 3 ∨ E = 6 ∨ E = 8) (k : Fr S w w') (hn : NoB w S) (hS : ∀ b, S b → clsW E (col b)) (hB : B0 ≤ w.heap.size) (hc : ∀ b, b < w.heap.size → col' b = col b) :
    Inv E w' col' B0 gb ta tb mvb La Lb H K mv WA wc MS := by
  have hb0 : ∀ b, b < B0 → ¬ S b := fun b hb e => by
    have h1 := hS b e
    rw [h.c0 b hb] at h1
    rcases h1 with h1 | ⟨h1, h2 | h2⟩
    · omega
    · cases h2
    · cases h2
  have far : ∀ i, (∀ c, clsW E c → c ≠ i) → ∀ b, b < w.heap.size → col b = i → col' b = i ∧ ¬ S b := fun i hi b hb e => ⟨(hc b hb).trans e, fun es => hi _ (hS b es) e⟩
  have f5 : ∀ c, clsW E c → c ≠ 5 := by
    rintro c (rfl | ⟨rfl, rfl | rfl⟩) <;> omega
  have hz := far 5 f5
  refine ⟨fun b hb => (hc b (by omega)).trans (h.c0 b hb), fun e => (h.ta (by omega)).lift k hn (far 1 ?_), fun e => (h.tb (by omega)).lift k hn (far 2 ?_), fun e => ?_, h.i0.lift k hz hb0, h.i1.lift k hz hb0, fun e => ?_, fun e => ?_, fun e => ?_, fun e b hb => ?_, fun x hx => ⟨(h.ms x hx).1.lift k hz hb0, (h.ms x hx).2.lift k hz hb0⟩⟩
  · rintro c (rfl | ⟨rfl, rfl | rfl⟩) <;> omega
  · rintro c (rfl | ⟨rfl, rfl | rfl⟩) <;> omega
  · have hl := h.log (by decide)
    have hl2 := hl.recol hc
    refine hl2.lift k (fun b hbs hb => ?_) hn
    have h1 := hS b hb
    rw [hc b hbs]
    rcases h1 with h1 | ⟨h1, _⟩
    · rw [h1]; omega
    · omega
  · exact (h.mv (by decide)).fr k (fun es => by
      have h1 := hS _ es
      rw [h.mc (by decide)] at h1
      rcases h1 with h1 | ⟨_, h1 | h1⟩ <;> omega)
  · rw [hc mvb (h.mv (by decide)).lt]; exact h.mc (by decide)
  · exact (h.row (by decide)).fr k (fun b hb es => by
      have h1 := hS _ es
      rw [h.rc (by decide) b hb] at h1
      rcases h1 with h1 | ⟨_, h1 | h1⟩ <;> omega)
  · rw [hc b ((h.row (by decide)).lt b hb).2]; exact h.rc (by decide) b hb
theorem Inv.below (h : Inv 0 w col B0 gb ta tb mvb La Lb H K mv WA wc MS) (k : Below w.heap.size w w') : Inv 0 w' col B0 gb ta tb mvb La Lb H K mv WA wc MS :=
  ⟨h.c0, fun e => (h.ta e).below k, fun e => (h.tb e).below k, fun e => (h.log e).below k, h.i0.fr (Fr.of_below k (fun _ => False)) (fun _ _ _ h => h) (fun _ _ h => h), h.i1.fr (Fr.of_below k (fun _ => False)) (fun _ _ _ h => h) (fun _ _ h => h), fun e => (h.mv e).below k, h.mc, fun e => (h.row e).below k, h.rc,
    fun x hx => ⟨(h.ms x hx).1.fr (Fr.of_below k (fun _ => False)) (fun _ _ _ h => h) (fun _ _ h => h), (h.ms x hx).2.fr (Fr.of_below k (fun _ => False)) (fun _ _ _ h => h) (fun _ _ h => h)⟩⟩
/-- other colours for what is not yet there -/
theorem Inv.recol (h : Inv 0 w col B0 gb ta tb mvb La Lb H K mv WA wc MS) (hB : B0 ≤ w.heap.size) (hc : ∀ b, b < w.heap.size → col' b = col b) : Inv 0 w col' B0 gb ta tb mvb La Lb H K mv WA wc MS :=
  ⟨fun b hb => (hc b (by omega)).trans (h.c0 b hb), fun e => (h.ta e).mono (fun b hb e => (hc b hb).trans e), fun e => (h.tb e).mono (fun b hb e => (hc b hb).trans e), fun e => (h.log e).recol hc, h.i0.mono (fun b hb e => (hc b hb).trans e), h.i1.mono (fun b hb e => (hc b hb).trans e), h.mv, fun e => (hc mvb (h.mv e).lt).trans (h.mc e), h.row, fun e b hb => (hc b ((h.row e).lt b hb).2).trans (h.rc e b hb),
    fun x hx => ⟨(h.ms x hx).1.mono (fun b hb e => (hc b hb).trans e), (h.ms x hx).2.mono (fun b hb e => (hc b hb).trans e)⟩⟩
end Go.Proofs.YtdnljmncdbcgeaaGreat

/- tenderlaw42: made. -/
namespace Go.Proofs.YtdnljmncdbcgeaaGreat
open Go.RowKit Go.Maps

section
variable {w : World} {col : Nat → Nat} {B0 gb ta tb mvb : Nat} {La Lb L' : List (List UInt8 × LV)} {H K H' K' : List (List (List UInt8 × LP))} {mv mv' : MO} {WA : Option Addr} {wc : Nat} {MS : List MO}
theorem Inv.put1 (h : Inv 1 w col B0 gb ta tb mvb La Lb H K mv WA wc MS) (hq : TreeQ w (fun b => col b = 1) (some ⟨ta, 0, none⟩) L') : Inv 0 w col B0 gb ta tb mvb L' Lb H K mv WA wc MS :=
  ⟨h.c0, fun _ => hq, fun _ => h.tb (by decide), fun _ => h.log (by decide), h.i0, h.i1, fun _ => h.mv (by decide), fun _ => h.mc (by decide), fun _ => h.row (by decide), fun _ => h.rc (by decide), h.ms⟩
theorem Inv.put2 (h : Inv 2 w col B0 gb ta tb mvb La Lb H K mv WA wc MS) (hq : TreeQ w (fun b => col b = 2) (some ⟨tb, 0, none⟩) L') : Inv 0 w col B0 gb ta tb mvb La L' H K mv WA wc MS :=
  ⟨h.c0, fun _ => h.ta (by decide), fun _ => hq, fun _ => h.log (by decide), h.i0, h.i1, fun _ => h.mv (by decide), fun _ => h.mc (by decide), fun _ => h.row (by decide), fun _ => h.rc (by decide), h.ms⟩
theorem Inv.put3 (h : Inv 3 w col B0 gb ta tb mvb La Lb H K mv WA wc MS) (hq : LogAt w col gb H' K') : Inv 0 w col B0 gb ta tb mvb La Lb H' K' mv WA wc MS :=
  ⟨h.c0, fun _ => h.ta (by decide), fun _ => h.tb (by decide), fun _ => hq, h.i0, h.i1, fun _ => h.mv (by decide), fun _ => h.mc (by decide), fun _ => h.row (by decide), fun _ => h.rc (by decide), h.ms⟩
theorem Inv.put8 (h : Inv 8 w col B0 gb ta tb mvb La Lb H K mv WA wc MS) (h0 : ItsZ w (fun b => col b = 5) B0 mv'.A mv'.L) (h1 : ItsZ w (fun b => col b = 5) B0 mv'.B mv'.M) (hb : Blk w mvb 91 #[.slice mv'.A mv'.L.length mv'.c, .slice mv'.B mv'.M.length mv'.d]) (hc : col mvb = 8) : Inv 0 w col B0 gb ta tb mvb La Lb H K mv' WA wc MS :=
  ⟨h.c0, fun _ => h.ta (by decide), fun _ => h.tb (by decide), fun _ => h.log (by decide), h0, h1, fun _ => hb, fun _ => hc, fun _ => h.row (by decide), fun _ => h.rc (by decide), h.ms⟩
theorem Inv.put6 {WA' : Option Addr} {wc' : Nat} (h : Inv 6 w col B0 gb ta tb mvb La Lb H K mv WA wc MS) (hr : Row w 0 91 2 WA' (MS ++ [mv]).length wc' ((MS ++ [mv]).flatMap MO.cells)) (hc : ∀ b, ablk WA' = some b → col b = 6) : Inv 0 w col B0 gb ta tb mvb La Lb H K mv WA' wc' (MS ++ [mv]) :=
  ⟨h.c0, fun _ => h.ta (by decide), fun _ => h.tb (by decide), fun _ => h.log (by decide), h.i0, h.i1, fun _ => h.mv (by decide), fun _ => h.mc (by decide), fun _ => hr, fun _ => hc, fun x hx => by
    rcases List.mem_append.1 hx with hx | hx
    · exact h.ms x hx
    · rw [List.mem_singleton.1 hx]; exact ⟨h.i0, h.i1⟩⟩
/-- a tree was set -/
theorem tree_step {w2 : World} {E ti : Nat} {mo mo' : Option Nat} (hT : TreeAt w ti mo La) (h1 : col ti = E) (h2 : ∀ b, mo = some b → col b = E) (hT2 : TreeAt w2 ti mo' L') (hmo : ∀ m, mo' = some m → mo = some m ∨ w.heap.size ≤ m) (hm : ∀ m, mo = some m → m < w.heap.size) :
    TreeQ w2 (fun b => paint col w E b = E) (some ⟨ti, 0, none⟩) L' :=
  .inr ⟨ti, mo', rfl, hT2, by show paint col w E ti = E; rw [paint_old hT.blk.lt]; exact h1, fun b e => by
    show paint col w E b = E
    rcases hmo b e with e | e
    · rw [paint_old (hm b e)]; exact h2 b e
    · exact paint_new e⟩
theorem tree_nob {ti : Nat} {mo : Option Nat} (hT : TreeAt w ti mo La) : NoB w (fun g => g = ti ∨ mo = some g) := by
  rintro b (rfl | e)
  · exact NoB.blk hT.blk (by decide)
  · rcases hT.map with ⟨e1, _⟩ | ⟨mb, e1, hm⟩
    · rw [e1] at e; cases e
    · rw [e1] at e; injection e with e; exact e ▸ NoB.map hm
theorem tree_mlt {ti : Nat} {mo : Option Nat} (hT : TreeAt w ti mo La) : ∀ m, mo = some m → m < w.heap.size := fun m e => by
  rcases hT.map with ⟨e1, _⟩ | ⟨mb, e1, hm⟩
  · rw [e1] at e; cases e
  · rw [e1] at e; injection e with e; exact e ▸ hm.lt
theorem tree_zb {ti zb : Nat} {mo : Option Nat} {t : TypeId} {cs : Array Value} (hT : TreeAt w ti mo La) (hz : Blk w zb t cs) (ht : t ≠ 88) : ¬ (zb = ti ∨ mo = some zb) := by
  rintro (e | e)
  · exact hz.ne_ hT.blk ht e
  · rcases hT.map with ⟨e1, _⟩ | ⟨mb, e1, hm⟩
    · rw [e1] at e; cases e
    · rw [e1] at e; injection e with e
      subst e
      exact hm.not_cells hz
/-- the document's answer, where it lies -/
theorem refZ_its {w2 : World} {A A' : Option Addr} {L M : List (List UInt8 × LV)} {p : List UInt8} {k : Int} {x : BV} {n : Int} (h : ItsZ w2 (fun b => paint col w 5 b = 5) B0 A L) (hM : Hid (M = if n = 0 then putI L p ⟨k, x⟩ else L)) (hz : (A' = A ∧ M = L) ∨ ∀ b, ablk A' = some b → w.heap.size ≤ b) (hI : Its w2 A' M) (hx : x.ok w2 (fun b => b < B0)) : ItsZ w2 (fun b => paint col w 5 b = 5) B0 A' M := by
  have hm : ∀ y ∈ M, y = (p, ⟨k, x⟩) ∨ y ∈ L := by
    intro y hy
    rw [hM.out] at hy
    split at hy
    · unfold Go.Proofs.YtdnljmncdbcgeaaGreat.putI at hy
      split at hy
      · exact .inr (List.mem_filter.1 hy).1
      · rcases mem_ins.1 hy with e | e
        · exact .inl e
        · exact .inr (List.mem_filter.1 e).1
    · exact .inr hy
  refine ⟨hI, fun hn b hb => ?_, fun y hy => ?_⟩
  · rcases hz with ⟨e1, e2⟩ | e
    · exact h.blk (by rw [← e2]; exact hn) b (by rw [← e1]; exact hb)
    · exact paint_new (e b hb)
  · rcases hm y hy with rfl | hy
    · exact hx
    · exact h.ok y hy
end
/-- what has been made -/
structure MadeAt (w : World) (l : List SV) (gb : Nat) (col : Nat → Nat) (WA : Option Addr) (wc : Nat) (MS : List MO) : Prop where
  log : LogAt w col gb ((momS l).map (·.1)) ((momS l).map (·.2))
  row : Rd w (fun _ => True) 2 WA MS.length (MS.flatMap MO.cells)
  its : ∀ x ∈ MS, Its w x.A x.L ∧ Its w x.B x.M
  pl : Hid (MS.map MO.pl = momS l)

set_option maxRecDepth 100000 in
set_option maxHeartbeats 2000000 in
theorem made_any (A : Option Addr) (c : Nat) (l : List SV) (w : World) (h : StA w A l) (hl : l.length ≤ 60 ∧ ∀ s ∈ l, s.x.1.length ≤ 200 ∧ s.x.2.x.l.length ≤ 20000) :
    Calls Tryz.prog 8 #[.slice A l.length c] w fun e w' => ∃ (gb : Nat) (col : Nat → Nat) (WA : Option Addr) (wc : Nat) (MS : List MO), e = .returned (.tuple #[.pointer (some ⟨gb, 0, none⟩), .slice WA MS.length wc, .bool true]) ∧ MadeAt w' l gb col WA wc MS ∧ Below w.heap.size w w' := by
  have HA := Lib.hid h
  obtain ⟨hl1, hl2⟩ := hl
  have HL2 := Lib.hid hl2
  obtain ⟨i0, hi0, hz0, hz1, hz2⟩ := info_parts mo_info
  clear h hl2
  go_enter Tryz.func8, Tryz.ntmps8
  go_wp2_with fail
  have hb2 : Below w.heap.size w ((w.alloc (.cells #[.map none] 88)).alloc (.cells #[.map none] 88)) := ((Below.refl _ _).alloc (Nat.le_refl _) _).alloc (by simp) _
  have t1 := (TreeAt.new w).below ((Below.refl _ (w.alloc (.cells #[.map none] 88))).alloc (Nat.le_refl _) (.cells #[.map none] 88))
  have t2 := TreeAt.new (w.alloc (.cells #[.map none] 88))
  rw [show (w.alloc (.cells #[.map none] 88)).heap.size = w.heap.size + 1 by simp] at t2
  obtain ⟨ta, hta⟩ : ∃ ta, ta = w.heap.size := ⟨_, rfl⟩
  obtain ⟨tb, htb⟩ : ∃ tb, tb = w.heap.size + 1 := ⟨_, rfl⟩
  rw [← hta] at t1
  rw [← htb] at t2
  rw [← htb, ← hta]
  have hs2 : ((w.alloc (.cells #[.map none] 88)).alloc (.cells #[.map none] 88)).heap.size = w.heap.size + 2 := by simp
  generalize (w.alloc (.cells #[.map none] 88)).alloc (.cells #[.map none] 88) = w2 at *
  have HT1 := Lib.hid t1
  have HT2 := Lib.hid t2
  have HE := Lib.hid (And.intro hta (And.intro htb hs2))
  clear t1 t2 hta htb hs2
  refine (logNew_any w2).mono ?_
  rintro e w3 ⟨rfl, rfl⟩
  obtain ⟨gb, hgb⟩ : ∃ gb, gb = w2.heap.size := ⟨_, rfl⟩
  obtain ⟨mvb, hmvb⟩ : ∃ mvb, mvb = w2.heap.size + 1 := ⟨_, rfl⟩
  have hs3 : (w2.alloc (.cells #[.int .i64 0, .pointer none, .map none, .pointer none, .map none] 102)).heap.size = w2.heap.size + 1 := by simp
  have hb3 : Below w2.heap.size w2 ((w2.alloc (.cells #[.int .i64 0, .pointer none, .map none, .pointer none, .map none] 102)).alloc (.cells #[.slice none 0 0, .slice none 0 0] 91)) := ((Below.refl _ _).alloc (Nat.le_refl _) _).alloc (by simp) _
  obtain ⟨col0, hcol0⟩ : ∃ col0 : Nat → Nat, col0 = fun b => if b = ta then 1 else if b = tb then 2 else if b = gb then 7 else if b = mvb then 8 else 0 := ⟨_, rfl⟩
  have HI0 : Hid (Inv 0 ((w2.alloc (.cells #[.int .i64 0, .pointer none, .map none, .pointer none, .map none] 102)).alloc (.cells #[.slice none 0 0, .slice none 0 0] 91)) col0 w.heap.size gb ta tb mvb [] [] [] [] ⟨none, 0, [], none, 0, []⟩ none 0 []) := Lib.hid (by
    obtain ⟨e1, e2, e3⟩ := HE.out
    have g0 : ∀ b, b < w.heap.size → col0 b = 0 := fun b hb => by
      rw [hcol0]
      show (if b = ta then 1 else if b = tb then 2 else if b = gb then 7 else if b = mvb then 8 else 0) = 0
      rw [if_neg (by omega), if_neg (by omega), if_neg (by omega), if_neg (by omega)]
    have g1 : col0 ta = 1 := by rw [hcol0]; exact if_pos rfl
    have g2 : col0 tb = 2 := by
      rw [hcol0]
      show (if tb = ta then 1 else if tb = tb then 2 else if tb = gb then 7 else if tb = mvb then 8 else 0) = 2
      rw [if_neg (by omega), if_pos rfl]
    have g7 : col0 gb = 7 := by
      rw [hcol0]
      show (if gb = ta then 1 else if gb = tb then 2 else if gb = gb then 7 else if gb = mvb then 8 else 0) = 7
      rw [if_neg (by omega), if_neg (by omega), if_pos rfl]
    have g8 : col0 mvb = 8 := by
      rw [hcol0]
      show (if mvb = ta then 1 else if mvb = tb then 2 else if mvb = gb then 7 else if mvb = mvb then 8 else 0) = 8
      rw [if_neg (by omega), if_neg (by omega), if_neg (by omega), if_pos rfl]
    have bm : Blk ((w2.alloc (.cells #[.int .i64 0, .pointer none, .map none, .pointer none, .map none] 102)).alloc (.cells #[.slice none 0 0, .slice none 0 0] 91)) mvb 91 #[.slice none 0 0, .slice none 0 0] := by
      have := Blk.new (w2.alloc (.cells #[.int .i64 0, .pointer none, .map none, .pointer none, .map none] 102)) 91 #[.slice none 0 0, .slice none 0 0]
      rwa [hs3, ← hmvb] at this
    have lg : LogAt ((w2.alloc (.cells #[.int .i64 0, .pointer none, .map none, .pointer none, .map none] 102)).alloc (.cells #[.slice none 0 0, .slice none 0 0] 91)) col0 gb [] [] := by
      have := (LogAt.new w2 col0 (by rw [← hgb]; exact g7)).below ((Below.refl _ (w2.alloc (.cells #[.int .i64 0, .pointer none, .map none, .pointer none, .map none] 102))).alloc (Nat.le_refl _) (.cells #[.slice none 0 0, .slice none 0 0] 91))
      rwa [← hgb] at this
    exact ⟨g0, fun _ => .inr ⟨ta, none, rfl, HT1.out.below hb3, g1, by simp⟩, fun _ => .inr ⟨tb, none, rfl, HT2.out.below hb3, g2, by simp⟩, fun _ => lg, ItsZ.nil _ _ _, ItsZ.nil _ _ _, fun _ => bm, fun _ => g8, fun _ => Row.none_ _ _ _ _, (fun _ b e => by cases e), by simp⟩)
  have hw4 := hb2.trans (hb3.mono hb2.size)
  go_upto_region 5 with (fail)
  rw [← hmvb, ← hgb]
  clear hmvb hgb hcol0 hs3 hb3 HT1 HT2 HE
  generalize (w2.alloc (.cells #[.int .i64 0, .pointer none, .map none, .pointer none, .map none] 102)).alloc (.cells #[.slice none 0 0, .slice none 0 0] 91) = w4 at *
  clear hb2
  go_wp2_with fail
  go_loopw [8, 19] (fun wv iv wr => ∃ (i : Nat) (col : Nat → Nat) (La Lb : List (List UInt8 × LV)) (mv : MO) (WA : Option Addr) (wc : Nat) (MS : List MO), i ≤ l.length ∧ iv = .int .i64 (i : Int) ∧ wv = .slice WA MS.length wc ∧ Inv 0 wr col w.heap.size gb ta tb mvb La Lb ((momS (l.take i)).map (·.1)) ((momS (l.take i)).map (·.2)) mv WA wc MS ∧ Hid (plainL La = (stateS (l.take i)).1 ∧ plainL Lb = (stateS (l.take i)).2 ∧ plainL mv.L = (stateS (l.take i)).1 ∧ plainL mv.M = (stateS (l.take i)).2 ∧ MS.map MO.pl = momS (l.take i)) ∧ Below w.heap.size w wr) (fun _ iv _ => l.length - (intOf iv).toNat)
  case atStart => exact ⟨0, col0, [], [], ⟨none, 0, [], none, 0, []⟩, none, 0, [], Nat.zero_le _, rfl, rfl, HI0.out, Lib.hid ⟨rfl, rfl, rfl, rfl, rfl⟩, hw4⟩
  case round =>
    obtain ⟨i, col, La, Lb, mv, WA, wc, MS, hi, rfl, rfl, hI, HPL, hb⟩ := hrel
    have hMS : MS.length = i := by
      have h1 := congrArg List.length HPL.out.2.2.2.2
      rw [List.length_map, mom_len, List.length_take] at h1
      omega
    by_cases hlt : i < l.length
    · obtain ⟨b, off, rfl, hbb, c0, c1, c2, c3⟩ := (HA.out.below hb).at_ hlt
      obtain ⟨s, hs⟩ : ∃ s, s = l[i] := ⟨_, rfl⟩
      have hmem : s ∈ l := by rw [hs]; exact List.getElem_mem hlt
      obtain ⟨hsl1, hsl2⟩ := HL2.out s hmem
      have HXO : Hid (∀ W, Below w.heap.size w W → s.x.2.x.ok W (fun b => b < w.heap.size)) := Lib.hid (fun W hW => ((HA.out.ok s hmem).1.x).below hW)
      rw [← hs] at c0 c1 c2 c3
      have HS := Lib.hid hs
      have HMSL := Lib.hid hMS
      have hMSl : MS.length ≤ 60 := by omega
      have hba : Below wr.heap.size wr (wr.alloc (.cells #[.bool s.th, .string ⟨⟨s.x.1⟩⟩, .int .i64 s.x.2.k, .slice s.x.2.x.A s.x.2.x.l.length s.x.2.x.c] 78)) := (Below.refl _ _).alloc (Nat.le_refl _) _
      have hz := Blk.new wr 78 #[.bool s.th, .string ⟨⟨s.x.1⟩⟩, .int .i64 s.x.2.k, .slice s.x.2.x.A s.x.2.x.l.length s.x.2.x.c]
      have hI1 := hI.below hba
      have hw1 := hb.trans (hba.mono hb.size)
      clear hs hI hmem hMS
      go_upto_region 8 with (fail)
      obtain ⟨zb, hzb⟩ : ∃ zb, zb = wr.heap.size := ⟨_, rfl⟩
      rw [← hzb] at hz ⊢
      clear hzb hba
      generalize wr.alloc (.cells #[.bool s.th, .string ⟨⟨s.x.1⟩⟩, .int .i64 s.x.2.k, .slice s.x.2.x.A s.x.2.x.l.length s.x.2.x.c] 78) = w1 at *
      clear c0 c1 c2 c3 hbb
      rcases hth : s.th with _ | _
      · rw [hth] at hz
        obtain ⟨mo, hT1, hx1, hx2⟩ : ∃ mo, TreeAt w1 ta mo La ∧ col ta = 1 ∧ ∀ b, mo = some b → col b = 1 := by
          rcases hI1.ta (by decide) with ⟨e, _⟩ | ⟨t', mo, e, h1, h2, h3⟩
          · cases e
          · obtain rfl : t' = ta := by injection e with e; injection e with e1; exact e1.symm
            exact ⟨mo, h1, h2, h3⟩
        have HT1 := Lib.hid hT1
        have HI1 := Lib.hid hI1
        have HX2 := Lib.hid hx2
        clear hT1 hI1 hx2
        have z0 := hz.cell 0
        have z1 := hz.cell 1
        have z2 := hz.cell 2
        have z3 := hz.cell 3
        simp only [List.getElem?_toArray, List.getElem?_cons_zero, List.getElem?_cons_succ] at z0 z1 z2 z3
        go_wp2_with fail
        refine (treeSet_any sortsT ta mo La s.x.1 s.x.2.k s.x.2.x.A s.x.2.x.c s.x.2.x.l _ w1 HT1.out (HXO.out w1 hw1).1 (by omega) (by omega)).mono ?_
        rintro e w2 ⟨rfl, hto⟩
        obtain ⟨L2, hT2, hL2, hq2, hfr2⟩ : ∃ L2, Hid (∀ b, b < w1.heap.size → paint col w1 1 b = col b) ∧ Hid (plainL L2 = setS (plainL La) s.x.1 (s.x.2.k, s.x.2.x.l)) ∧ TreeQ w2 (fun b => paint col w1 1 b = 1) (some ⟨ta, 0, none⟩) L2 ∧ Fr (fun g => g = ta ∨ mo = some g) w1 w2 := by
          obtain ⟨mo2, L2, h1, h2, h3⟩ := hto.at_
          exact ⟨L2, Lib.hid (fun b hb => paint_old hb), h2, tree_step HT1.out hx1 HX2.out h1 h3 (tree_mlt HT1.out), hto.fr⟩
        have hI2 := (HI1.out.step 1 (by decide) hfr2 (tree_nob HT1.out) (fun b e => .inl (by rcases e with e | e; (· rw [e]; exact hx1); (· exact HX2.out b e))) hw1.size hT2.out).put1 hq2
        have hz2 := hz.fr hfr2 (tree_zb HT1.out hz (by decide))
        have hw2 : Below w.heap.size w w2 := hw1.trans (hfr2.below hw1.size (fun k hk e => by
          have h0 := HI1.out.c0 k hk
          rcases e with e | e
          · rw [e, hx1] at h0; cases h0
          · rw [HX2.out k e] at h0; cases h0))
        have HOK : Hid (TreeOk (plainL mv.L)) := Lib.hid (by
          have h1 := HT1.out.plain
          rwa [show plainL mv.L = plainL La by rw [HPL.out.2.2.1, HPL.out.1]])
        have HLX := Lib.hid hL2.out
        generalize paint col w1 1 = col2 at *
        clear z0 z1 z2 z3 hto hq2 hfr2 hT2 hL2 HI1
        have z0 := hz2.cell 0
        have z1 := hz2.cell 1
        have z2 := hz2.cell 2
        have z3 := hz2.cell 3
        simp only [List.getElem?_toArray, List.getElem?_cons_zero, List.getElem?_cons_succ] at z0 z1 z2 z3
        have m0 := (hI2.mv (by decide)).cell 0
        simp only [List.getElem?_toArray, List.getElem?_cons_zero] at m0
        have HI2 := Lib.hid hI2
        clear hI2
        go_wp2_with fail
        refine (refSetZ_any mv.A mv.c mv.L s.x.1 s.x.2.k s.x.2.x.A s.x.2.x.c s.x.2.x.l w2 HI2.out.i0.its HOK.out ((HXO.out w2 hw2).mono (fun _ _ _ => trivial)) (by omega) (by omega)).mono ?_
        rintro e w3 ⟨B3, d3, M3, rfl, hM3, hz3, hI3, hb3⟩
        have hI3' := (HI2.out.recol (col' := paint col2 w2 5) hw2.size (fun b hb => paint_old hb)).below hb3
        have hw3 := hw2.trans (hb3.mono hw2.size)
        have hiz := refZ_its hI3'.i0 hM3 hz3 hI3 (HXO.out w3 hw3)
        have HMX : Hid (plainL M3 = setS (plainL La) s.x.1 (s.x.2.k, s.x.2.x.l)) := Lib.hid (by
          have h1 := plain_step mv.L s.x.1 s.x.2
          rw [hM3.out]
          refine h1.trans ?_
          rw [show plainL mv.L = plainL La by rw [HPL.out.2.2.1, HPL.out.1]]
          rfl)
        have hz3' := hz2.below hb3
        generalize paint col2 w2 5 = col3 at *
        clear z0 z1 z2 z3 m0 HI2 hM3 hz3 hI3 hz2 HOK hb3
        have hmb := hI3'.mv (by decide)
        have hmc := hI3'.mc (by decide)
        have m0 := hmb.cell 0
        simp only [List.getElem?_toArray, List.getElem?_cons_zero] at m0
        have fz := fun j => hmb.frozen j
        have hmb4 := hmb.set_ 0 (.slice B3 M3.length d3)
        simp only [List.setIfInBounds_toArray, List.set_cons_zero] at hmb4
        have kF : Fr (fun x => x = mvb) w3 (w3.setCell ⟨mvb, 0, none⟩ (.slice B3 M3.length d3)) := (Fr.refl (fun x => x = mvb) w3).setAt mvb _ rfl _
        have n3 : NoB w3 (fun x => x = mvb) := fun b hb => hb ▸ NoB.blk hmb (by decide)
        have hI4' := hI3'.step 8 (by decide) kF n3 (fun b e => .inl (by rw [e]; exact hmc)) hw3.size (fun _ _ => rfl)
        have hiz4 := hiz.fr kF (fun b _ h5 e => by rw [e, hmc] at h5; cases h5) (fun b hb e => by have := hI3'.c0 b hb; rw [e, hmc] at this; cases this)
        have hI4 : Inv 0 (w3.setCell ⟨mvb, 0, none⟩ (.slice B3 M3.length d3)) col3 w.heap.size gb ta tb mvb L2 Lb ((momS (l.take i)).map (·.1)) ((momS (l.take i)).map (·.2)) ⟨B3, d3, M3, mv.B, mv.d, mv.M⟩ WA wc MS := hI4'.put8 hiz4 hI4'.i1 hmb4 hmc
        have hw4 : Below w.heap.size w (w3.setCell ⟨mvb, 0, none⟩ (.slice B3 M3.length d3)) := hw3.trans (kF.below hw3.size (fun k hk e => by have := hI3'.c0 k hk; rw [e, hmc] at this; cases this))
        have HP4 : Hid (plainL L2 = (stateS (l.take (i + 1))).1 ∧ plainL Lb = (stateS (l.take (i + 1))).2 ∧ plainL (⟨B3, d3, M3, mv.B, mv.d, mv.M⟩ : MO).L = (stateS (l.take (i + 1))).1 ∧ plainL (⟨B3, d3, M3, mv.B, mv.d, mv.M⟩ : MO).M = (stateS (l.take (i + 1))).2) := Lib.hid (by
          rw [state_take hlt, ← HS.out]
          unfold stepT
          rw [if_neg (by rw [hth]; decide)]
          have e2 : s.x.2.p = (s.x.2.k, s.x.2.x.l) := rfl
          refine ⟨?_, HPL.out.2.1, ?_, HPL.out.2.2.2.1⟩
          · show plainL L2 = _
            rw [HLX.out, e2, HPL.out.1]
          · show plainL M3 = _
            rw [HMX.out, e2, HPL.out.1])
        have HI4 := Lib.hid hI4
        obtain ⟨mv4, hmv4⟩ : ∃ mv4 : MO, mv4 = ⟨B3, d3, M3, mv.B, mv.d, mv.M⟩ := ⟨_, rfl⟩
        rw [← hmv4] at HI4 HP4
        clear hmv4 hI4 hI4' hiz4 hiz hI3' n3 kF hmb4 hmb hz3' HLX HMX
        go_upto_region 13 with (fail)
        generalize w3.setCell ⟨mvb, 0, none⟩ (.slice B3 M3.length d3) = w4 at *
        clear m0 fz
        go_wp2_with fail
        refine (logNote_any col3 gb _ _ (fun b => col3 b = 1) (fun b => col3 b = 2) (some ⟨ta, 0, none⟩) (some ⟨tb, 0, none⟩) L2 Lb w4 (HI4.out.log (by decide)) (HI4.out.ta (by decide)) (HI4.out.tb (by decide)) (fun b e => by rw [show col3 b = 1 from e]; decide) (fun b e => by rw [show col3 b = 2 from e]; decide) (by rw [List.length_map, mom_len, List.length_take]; omega)).mono ?_
        rintro e w5 ⟨rfl, col5, S, hc5, hl5, hf5, hn5, hS5⟩
        have hI5 := (HI4.out.step 3 (by decide) hf5 hn5 (fun b e => by rcases hS5.out b e with h | h | h; (· exact .inl h); (· exact .inr ⟨rfl, .inl h⟩); (· exact .inr ⟨rfl, .inr h⟩)) hw4.size hc5.out).put3 hl5
        have hw5 : Below w.heap.size w w5 := hw4.trans (hf5.below hw4.size (fun k hk e => by
          have h0 := HI4.out.c0 k hk
          have h1 := hS5.out k e
          rw [h0] at h1
          rcases h1 with h1 | h1 | h1 <;> cases h1))
        have hm5 := hI5.mv (by decide)
        have m0 := hm5.cell 0
        have m1 := hm5.cell 1
        simp only [List.getElem?_toArray, List.getElem?_cons_zero, List.getElem?_cons_succ] at m0 m1
        have hHH : Hid ((momS (l.take (i + 1))).map (·.1) = (momS (l.take i)).map (·.1) ++ [plainL L2] ∧ (momS (l.take (i + 1))).map (·.2) = (momS (l.take i)).map (·.2) ++ [plainL Lb]) := Lib.hid (by
          rw [mom_take hlt, List.map_append, List.map_append, HP4.out.1, HP4.out.2.1]
          exact ⟨rfl, rfl⟩)
        have HI5 := Lib.hid (by rw [← hHH.out.1, ← hHH.out.2] at hI5; exact hI5)
        have hba : Below w5.heap.size w5 (w5.alloc (.cells #[.slice mv4.A mv4.L.length mv4.c, .slice mv4.B mv4.M.length mv4.d] 91)) := (Below.refl _ _).alloc (Nat.le_refl _) _
        have HI6 := Lib.hid (HI5.out.below hba)
        have HRD : Hid (Rd (w5.alloc (.cells #[.slice mv4.A mv4.L.length mv4.c, .slice mv4.B mv4.M.length mv4.d] 91)) (fun b => w5.heap.size ≤ b) 2 (some ⟨w5.heap.size, 0, none⟩) 1 (MO.cells mv4)) := Lib.hid (Rd.lit rfl rfl rfl)
        have hw6 := hw5.trans (hba.mono hw5.size)
        clear HI4 hc5 hl5 hf5 hn5 hS5 hI5 hm5 hba hHH HI5
        go_wp2_with (at_builtin; refine wpList_append_row _ rfl (.tmp 71) (.tmp 73) 31 rfl 0 91 i0 _ 2 48 Tryz.underlying31 hi0 hz0 hz1 hz2 rfl (by omega) rfl (HI6.out.row (by decide)) rfl HRD.out (fun u hu => mo_one [mv4] u (by simpa using hu)) (by simp only [maxLen]; omega) (by omega) (Nat.zero_le _) ?_; intro A7 c7 w7 h71 h72 h73)
        have hf7 : Fr (fun b => ablk WA = some b) (w5.alloc (.cells #[.slice mv4.A mv4.L.length mv4.c, .slice mv4.B mv4.M.length mv4.d] 91)) w7 := Fr.of_grown h72 (fun _ _ e => e)
        have hI7 := HI6.out.step (col' := paint col5 (w5.alloc (.cells #[.slice mv4.A mv4.L.length mv4.c, .slice mv4.B mv4.M.length mv4.d] 91)) 6) 6 (by decide) hf7 (fun b hb => NoB.row (HI6.out.row (by decide)) (by decide) hb) (fun b e => .inl (HI6.out.rc (by decide) b e)) hw6.size (fun b hb => paint_old hb)
        have hr7 : Row w7 0 91 2 A7 (MS ++ [mv4]).length c7 ((MS ++ [mv4]).flatMap MO.cells) := by
          rw [List.length_append, List.flatMap_append, List.flatMap_cons, List.flatMap_nil, List.append_nil]; exact h71
        have hI8 := hI7.put6 hr7 (fun b hb => by
          rcases h73 b hb with e | e
          · rw [paint_old ((HI6.out.row (by decide)).lt b e).2]; exact HI6.out.rc (by decide) b e
          · exact paint_new e)
        have hw7 : Below w.heap.size w w7 := hw6.trans (hf7.below hw6.size (fun k hk e => by
          have h0 := HI6.out.c0 k hk
          have h1 := HI6.out.rc (by decide) k e
          rw [h0] at h1; cases h1))
        have HI8 := Lib.hid hI8
        have HP8 : Hid (plainL L2 = (stateS (l.take (i + 1))).1 ∧ plainL Lb = (stateS (l.take (i + 1))).2 ∧ plainL mv4.L = (stateS (l.take (i + 1))).1 ∧ plainL mv4.M = (stateS (l.take (i + 1))).2 ∧ (MS ++ [mv4]).map MO.pl = momS (l.take (i + 1))) := Lib.hid (by
          refine ⟨HP4.out.1, HP4.out.2.1, HP4.out.2.2.1, HP4.out.2.2.2, ?_⟩
          rw [mom_take hlt, List.map_append, HPL.out.2.2.2.2, List.map_cons, List.map_nil]
          show _ ++ [(plainL mv4.L, plainL mv4.M)] = _
          rw [HP4.out.2.2.1, HP4.out.2.2.2])
        clear h71 h72 h73 hf7 hI7 hr7 hI8 HI6 HRD HP4 HPL m0 m1
        go_wp2_with fail
        go_roundw
        case rel => exact ⟨i + 1, _, L2, Lb, mv4, A7, c7, MS ++ [mv4], hlt, by go_num, by rw [List.length_append]; rfl, HI8.out, HP8, hw7⟩
        case measure => simp [intOf]; omega
      · rw [hth] at hz
        obtain ⟨mo, hT1, hx1, hx2⟩ : ∃ mo, TreeAt w1 tb mo Lb ∧ col tb = 2 ∧ ∀ b, mo = some b → col b = 2 := by
          rcases hI1.tb (by decide) with ⟨e, _⟩ | ⟨t', mo, e, h1, h2, h3⟩
          · cases e
          · obtain rfl : t' = tb := by injection e with e; injection e with e1; exact e1.symm
            exact ⟨mo, h1, h2, h3⟩
        have HT1 := Lib.hid hT1
        have HI1 := Lib.hid hI1
        have HX2 := Lib.hid hx2
        clear hT1 hI1 hx2
        have z0 := hz.cell 0
        have z1 := hz.cell 1
        have z2 := hz.cell 2
        have z3 := hz.cell 3
        simp only [List.getElem?_toArray, List.getElem?_cons_zero, List.getElem?_cons_succ] at z0 z1 z2 z3
        go_wp2_with fail
        refine (treeSet_any sortsT tb mo Lb s.x.1 s.x.2.k s.x.2.x.A s.x.2.x.c s.x.2.x.l _ w1 HT1.out (HXO.out w1 hw1).1 (by omega) (by omega)).mono ?_
        rintro e w2 ⟨rfl, hto⟩
        obtain ⟨L2, hT2, hL2, hq2, hfr2⟩ : ∃ L2, Hid (∀ b, b < w1.heap.size → paint col w1 2 b = col b) ∧ Hid (plainL L2 = setS (plainL Lb) s.x.1 (s.x.2.k, s.x.2.x.l)) ∧ TreeQ w2 (fun b => paint col w1 2 b = 2) (some ⟨tb, 0, none⟩) L2 ∧ Fr (fun g => g = tb ∨ mo = some g) w1 w2 := by
          obtain ⟨mo2, L2, h1, h2, h3⟩ := hto.at_
          exact ⟨L2, Lib.hid (fun b hb => paint_old hb), h2, tree_step HT1.out hx1 HX2.out h1 h3 (tree_mlt HT1.out), hto.fr⟩
        have hI2 := (HI1.out.step 2 (by decide) hfr2 (tree_nob HT1.out) (fun b e => .inl (by rcases e with e | e; (· rw [e]; exact hx1); (· exact HX2.out b e))) hw1.size hT2.out).put2 hq2
        have hz2 := hz.fr hfr2 (tree_zb HT1.out hz (by decide))
        have hw2 : Below w.heap.size w w2 := hw1.trans (hfr2.below hw1.size (fun k hk e => by
          have h0 := HI1.out.c0 k hk
          rcases e with e | e
          · rw [e, hx1] at h0; cases h0
          · rw [HX2.out k e] at h0; cases h0))
        have HOK : Hid (TreeOk (plainL mv.M)) := Lib.hid (by
          have h1 := HT1.out.plain
          rwa [show plainL mv.M = plainL Lb by rw [HPL.out.2.2.2.1, HPL.out.2.1]])
        have HLX := Lib.hid hL2.out
        generalize paint col w1 2 = col2 at *
        clear z0 z1 z2 z3 hto hq2 hfr2 hT2 hL2 HI1
        have z0 := hz2.cell 0
        have z1 := hz2.cell 1
        have z2 := hz2.cell 2
        have z3 := hz2.cell 3
        simp only [List.getElem?_toArray, List.getElem?_cons_zero, List.getElem?_cons_succ] at z0 z1 z2 z3
        have m1 := (hI2.mv (by decide)).cell 1
        simp only [List.getElem?_toArray, List.getElem?_cons_zero, List.getElem?_cons_succ] at m1
        have HI2 := Lib.hid hI2
        clear hI2
        go_wp2_with fail
        refine (refSetZ_any mv.B mv.d mv.M s.x.1 s.x.2.k s.x.2.x.A s.x.2.x.c s.x.2.x.l w2 HI2.out.i1.its HOK.out ((HXO.out w2 hw2).mono (fun _ _ _ => trivial)) (by omega) (by omega)).mono ?_
        rintro e w3 ⟨B3, d3, M3, rfl, hM3, hz3, hI3, hb3⟩
        have hI3' := (HI2.out.recol (col' := paint col2 w2 5) hw2.size (fun b hb => paint_old hb)).below hb3
        have hw3 := hw2.trans (hb3.mono hw2.size)
        have hiz := refZ_its hI3'.i1 hM3 hz3 hI3 (HXO.out w3 hw3)
        have HMX : Hid (plainL M3 = setS (plainL Lb) s.x.1 (s.x.2.k, s.x.2.x.l)) := Lib.hid (by
          have h1 := plain_step mv.M s.x.1 s.x.2
          rw [hM3.out]
          refine h1.trans ?_
          rw [show plainL mv.M = plainL Lb by rw [HPL.out.2.2.2.1, HPL.out.2.1]]
          rfl)
        have hz3' := hz2.below hb3
        generalize paint col2 w2 5 = col3 at *
        clear z0 z1 z2 z3 m1 HI2 hM3 hz3 hI3 hz2 HOK hb3
        have hmb := hI3'.mv (by decide)
        have hmc := hI3'.mc (by decide)
        have m1 := hmb.cell 1
        simp only [List.getElem?_toArray, List.getElem?_cons_zero, List.getElem?_cons_succ] at m1
        have fz := fun j => hmb.frozen j
        have hmb4 := hmb.set_ 1 (.slice B3 M3.length d3)
        simp only [List.setIfInBounds_toArray, List.set_cons_zero, List.set_cons_succ] at hmb4
        have kF : Fr (fun x => x = mvb) w3 (w3.setCell ⟨mvb, 1, none⟩ (.slice B3 M3.length d3)) := (Fr.refl (fun x => x = mvb) w3).setAt mvb _ rfl _
        have n3 : NoB w3 (fun x => x = mvb) := fun b hb => hb ▸ NoB.blk hmb (by decide)
        have hI4' := hI3'.step 8 (by decide) kF n3 (fun b e => .inl (by rw [e]; exact hmc)) hw3.size (fun _ _ => rfl)
        have hiz4 := hiz.fr kF (fun b _ h5 e => by rw [e, hmc] at h5; cases h5) (fun b hb e => by have := hI3'.c0 b hb; rw [e, hmc] at this; cases this)
        have hI4 : Inv 0 (w3.setCell ⟨mvb, 1, none⟩ (.slice B3 M3.length d3)) col3 w.heap.size gb ta tb mvb La L2 ((momS (l.take i)).map (·.1)) ((momS (l.take i)).map (·.2)) ⟨mv.A, mv.c, mv.L, B3, d3, M3⟩ WA wc MS := hI4'.put8 hI4'.i0 hiz4 hmb4 hmc
        have hw4 : Below w.heap.size w (w3.setCell ⟨mvb, 1, none⟩ (.slice B3 M3.length d3)) := hw3.trans (kF.below hw3.size (fun k hk e => by have := hI3'.c0 k hk; rw [e, hmc] at this; cases this))
        have HP4 : Hid (plainL La = (stateS (l.take (i + 1))).1 ∧ plainL L2 = (stateS (l.take (i + 1))).2 ∧ plainL (⟨mv.A, mv.c, mv.L, B3, d3, M3⟩ : MO).L = (stateS (l.take (i + 1))).1 ∧ plainL (⟨mv.A, mv.c, mv.L, B3, d3, M3⟩ : MO).M = (stateS (l.take (i + 1))).2) := Lib.hid (by
          rw [state_take hlt, ← HS.out]
          unfold stepT
          rw [if_pos hth]
          have e2 : s.x.2.p = (s.x.2.k, s.x.2.x.l) := rfl
          refine ⟨HPL.out.1, ?_, HPL.out.2.2.1, ?_⟩
          · show plainL L2 = _
            rw [HLX.out, e2, HPL.out.2.1]
          · show plainL M3 = _
            rw [HMX.out, e2, HPL.out.2.1])
        have HI4 := Lib.hid hI4
        obtain ⟨mv4, hmv4⟩ : ∃ mv4 : MO, mv4 = ⟨mv.A, mv.c, mv.L, B3, d3, M3⟩ := ⟨_, rfl⟩
        rw [← hmv4] at HI4 HP4
        clear hmv4 hI4 hI4' hiz4 hiz hI3' n3 kF hmb4 hmb hz3' HLX HMX
        go_upto_region 13 with (fail)
        generalize w3.setCell ⟨mvb, 1, none⟩ (.slice B3 M3.length d3) = w4 at *
        clear m1 fz
        go_wp2_with fail
        refine (logNote_any col3 gb _ _ (fun b => col3 b = 1) (fun b => col3 b = 2) (some ⟨ta, 0, none⟩) (some ⟨tb, 0, none⟩) La L2 w4 (HI4.out.log (by decide)) (HI4.out.ta (by decide)) (HI4.out.tb (by decide)) (fun b e => by rw [show col3 b = 1 from e]; decide) (fun b e => by rw [show col3 b = 2 from e]; decide) (by rw [List.length_map, mom_len, List.length_take]; omega)).mono ?_
        rintro e w5 ⟨rfl, col5, S, hc5, hl5, hf5, hn5, hS5⟩
        have hI5 := (HI4.out.step 3 (by decide) hf5 hn5 (fun b e => by rcases hS5.out b e with h | h | h; (· exact .inl h); (· exact .inr ⟨rfl, .inl h⟩); (· exact .inr ⟨rfl, .inr h⟩)) hw4.size hc5.out).put3 hl5
        have hw5 : Below w.heap.size w w5 := hw4.trans (hf5.below hw4.size (fun k hk e => by
          have h0 := HI4.out.c0 k hk
          have h1 := hS5.out k e
          rw [h0] at h1
          rcases h1 with h1 | h1 | h1 <;> cases h1))
        have hm5 := hI5.mv (by decide)
        have m0 := hm5.cell 0
        have m1 := hm5.cell 1
        simp only [List.getElem?_toArray, List.getElem?_cons_zero, List.getElem?_cons_succ] at m0 m1
        have hHH : Hid ((momS (l.take (i + 1))).map (·.1) = (momS (l.take i)).map (·.1) ++ [plainL La] ∧ (momS (l.take (i + 1))).map (·.2) = (momS (l.take i)).map (·.2) ++ [plainL L2]) := Lib.hid (by
          rw [mom_take hlt, List.map_append, List.map_append, HP4.out.1, HP4.out.2.1]
          exact ⟨rfl, rfl⟩)
        have HI5 := Lib.hid (by rw [← hHH.out.1, ← hHH.out.2] at hI5; exact hI5)
        have hba : Below w5.heap.size w5 (w5.alloc (.cells #[.slice mv4.A mv4.L.length mv4.c, .slice mv4.B mv4.M.length mv4.d] 91)) := (Below.refl _ _).alloc (Nat.le_refl _) _
        have HI6 := Lib.hid (HI5.out.below hba)
        have HRD : Hid (Rd (w5.alloc (.cells #[.slice mv4.A mv4.L.length mv4.c, .slice mv4.B mv4.M.length mv4.d] 91)) (fun b => w5.heap.size ≤ b) 2 (some ⟨w5.heap.size, 0, none⟩) 1 (MO.cells mv4)) := Lib.hid (Rd.lit rfl rfl rfl)
        have hw6 := hw5.trans (hba.mono hw5.size)
        clear HI4 hc5 hl5 hf5 hn5 hS5 hI5 hm5 hba hHH HI5
        go_wp2_with (at_builtin; refine wpList_append_row _ rfl (.tmp 71) (.tmp 73) 31 rfl 0 91 i0 _ 2 48 Tryz.underlying31 hi0 hz0 hz1 hz2 rfl (by omega) rfl (HI6.out.row (by decide)) rfl HRD.out (fun u hu => mo_one [mv4] u (by simpa using hu)) (by simp only [maxLen]; omega) (by omega) (Nat.zero_le _) ?_; intro A7 c7 w7 h71 h72 h73)
        have hf7 : Fr (fun b => ablk WA = some b) (w5.alloc (.cells #[.slice mv4.A mv4.L.length mv4.c, .slice mv4.B mv4.M.length mv4.d] 91)) w7 := Fr.of_grown h72 (fun _ _ e => e)
        have hI7 := HI6.out.step (col' := paint col5 (w5.alloc (.cells #[.slice mv4.A mv4.L.length mv4.c, .slice mv4.B mv4.M.length mv4.d] 91)) 6) 6 (by decide) hf7 (fun b hb => NoB.row (HI6.out.row (by decide)) (by decide) hb) (fun b e => .inl (HI6.out.rc (by decide) b e)) hw6.size (fun b hb => paint_old hb)
        have hr7 : Row w7 0 91 2 A7 (MS ++ [mv4]).length c7 ((MS ++ [mv4]).flatMap MO.cells) := by
          rw [List.length_append, List.flatMap_append, List.flatMap_cons, List.flatMap_nil, List.append_nil]; exact h71
        have hI8 := hI7.put6 hr7 (fun b hb => by
          rcases h73 b hb with e | e
          · rw [paint_old ((HI6.out.row (by decide)).lt b e).2]; exact HI6.out.rc (by decide) b e
          · exact paint_new e)
        have hw7 : Below w.heap.size w w7 := hw6.trans (hf7.below hw6.size (fun k hk e => by
          have h0 := HI6.out.c0 k hk
          have h1 := HI6.out.rc (by decide) k e
          rw [h0] at h1; cases h1))
        have HI8 := Lib.hid hI8
        have HP8 : Hid (plainL La = (stateS (l.take (i + 1))).1 ∧ plainL L2 = (stateS (l.take (i + 1))).2 ∧ plainL mv4.L = (stateS (l.take (i + 1))).1 ∧ plainL mv4.M = (stateS (l.take (i + 1))).2 ∧ (MS ++ [mv4]).map MO.pl = momS (l.take (i + 1))) := Lib.hid (by
          refine ⟨HP4.out.1, HP4.out.2.1, HP4.out.2.2.1, HP4.out.2.2.2, ?_⟩
          rw [mom_take hlt, List.map_append, HPL.out.2.2.2.2, List.map_cons, List.map_nil]
          show _ ++ [(plainL mv4.L, plainL mv4.M)] = _
          rw [HP4.out.2.2.1, HP4.out.2.2.2])
        clear h71 h72 h73 hf7 hI7 hr7 hI8 HI6 HRD HP4 HPL m0 m1
        go_wp2_with fail
        go_roundw
        case rel => exact ⟨i + 1, _, La, L2, mv4, A7, c7, MS ++ [mv4], hlt, by go_num, by rw [List.length_append]; rfl, HI8.out, HP8, hw7⟩
        case measure => simp [intOf]; omega
    · have e : i = l.length := by omega
      subst e
      rw [List.take_length] at hI HPL
      have HM := Lib.hid (moments_any gb col _ _ wr (hI.log (by decide)))
      have HLN : Hid (((momS l).map (·.1)).length = l.length) := Lib.hid (by rw [List.length_map, mom_len])
      have HMD : Hid (∀ W, Below wr.heap.size wr W → MadeAt W l gb col WA wc MS) := Lib.hid (fun W hW => ⟨(hI.log (by decide)).below hW, ((hI.row (by decide)).below hW).rd.mono (fun _ _ _ => trivial), fun x hx => ⟨(hI.ms x hx).1.its.below hW, (hI.ms x hx).2.its.below hW⟩, Lib.hid HPL.out.2.2.2.2⟩)
      rw [HLN.out] at HM
      clear hI hMS
      go_wp2_with fail
      refine HM.out.mono ?_
      rintro e w5 ⟨rfl, hb5⟩
      have hw5 := hb.trans (hb5.mono hb.size)
      have HMD5 := Lib.hid (HMD.out w5 hb5)
      clear HMD HM
      go_wp2_with fail
      go_ret3
      exact ⟨gb, col, WA, wc, MS, rfl, HMD5.out, hw5⟩

end Go.Proofs.YtdnljmncdbcgeaaGreat

/- tenderref42: At, Held, Common. -/
namespace Go.Proofs.YtdnljmncdbcgeaaGreat
open Go.RowKit Go.Maps

/-- moments to be read -/
structure MosR (w : World) (WA : Option Addr) (MS : List MO) : Prop where
  row : Rd w (fun _ => True) 2 WA MS.length (MS.flatMap MO.cells)
  its : ∀ x ∈ MS, Its w x.A x.L ∧ Its w x.B x.M
theorem MosR.below {w w' : World} {WA : Option Addr} {MS : List MO} (h : MosR w WA MS) (k : Below w.heap.size w w') : MosR w' WA MS := ⟨h.row.below k, fun x hx => ⟨(h.its x hx).1.below k, (h.its x hx).2.below k⟩⟩
theorem MosR.at_ {w : World} {WA : Option Addr} {MS : List MO} {i : Nat} (h : MosR w WA MS) (hi : i < MS.length) :
    ∃ b off, WA = some ⟨b, off, none⟩ ∧ b < w.heap.size ∧ w.cell? ⟨b, off + i * 2, none⟩ = some (.slice MS[i].A MS[i].L.length MS[i].c) ∧ w.cell? ⟨b, off + i * 2 + 1, none⟩ = some (.slice MS[i].B MS[i].M.length MS[i].d) := by
  obtain ⟨b, off, hA, _, hb, hc⟩ := h.row.2 (by omega)
  have hg : ∀ j, j < 2 → (MS.flatMap MO.cells)[i * 2 + j]? = (MO.cells MS[i])[j]? := fun j hj => flat_get (k := 2) mo_len MS i j hi hj
  refine ⟨b, off, hA, hb, hc _ _ (hg 0 (by omega)), ?_⟩
  rw [Nat.add_assoc]
  exact hc _ _ (hg 1 (by omega))
def noMO : MO := ⟨none, 0, [], none, 0, []⟩
/-- the items at a side, at a moment -/
def rowM (MS : List MO) (side m : Int) : List (List UInt8 × LV) := if 0 ≤ m ∧ m < (MS.length : Int) then (if side = 1 then (MS[m.toNat]?.getD noMO).L else if side = 2 then (MS[m.toNat]?.getD noMO).M else []) else []
theorem rowM_its {w : World} {WA : Option Addr} {MS : List MO} (h : MosR w WA MS) (side m : Int) : ∃ A, Its w A (rowM MS side m) := by
  unfold rowM
  split
  · rename_i hm
    have hlt : m.toNat < MS.length := by omega
    rw [List.getElem?_eq_getElem hlt]
    have h1 := h.its _ (List.getElem_mem hlt)
    split
    · exact ⟨_, h1.1⟩
    · split
      · exact ⟨_, h1.2⟩
      · exact ⟨none, Its.nil w⟩
  · exact ⟨none, Its.nil w⟩
theorem rowM_at {MS : List MO} {PL : List (List (List UInt8 × LP) × List (List UInt8 × LP))} (h : MS.map MO.pl = PL) (side m : Int) (p : List UInt8) : at0 (plainL (rowM MS side m)) p = atS (sideS (PL.map (·.1)) (PL.map (·.2)) side) p m := by
  have hl : PL.length = MS.length := by rw [← h, List.length_map]
  unfold rowM atS sideS
  by_cases hm : 0 ≤ m ∧ m < (MS.length : Int)
  · rw [if_pos hm]
    have hlt : m.toNat < MS.length := by omega
    have hg : PL[m.toNat]? = some (MO.pl MS[m.toNat]) := by rw [← h, List.getElem?_map, List.getElem?_eq_getElem hlt]; rfl
    rw [List.getElem?_eq_getElem hlt]
    by_cases h1 : side = 1
    · rw [if_pos h1, if_pos h1, if_pos (by rw [List.length_map, hl]; exact hm), List.getElem?_map, hg]
      rfl
    · rw [if_neg h1, if_neg h1]
      by_cases h2 : side = 2
      · rw [if_pos h2, if_pos h2, if_pos (by rw [List.length_map, hl]; exact hm), List.getElem?_map, hg]
        rfl
      · rw [if_neg h2, if_neg h2]
        simp [plainL, at0, getR]
  · rw [if_neg hm]
    have hn : ¬ (0 ≤ m ∧ m < ((if side = 1 then PL.map (·.1) else if side = 2 then PL.map (·.2) else []).length : Int)) := by
      split
      · rw [List.length_map, hl]; exact hm
      · split
        · rw [List.length_map, hl]; exact hm
        · simp <;> omega
    rw [if_neg hn]
    rfl

set_option maxRecDepth 100000 in
set_option maxHeartbeats 1000000 in
theorem refAt42_any (WA : Option Addr) (wc : Nat) (MS : List MO) (side : Int) (p : List UInt8) (m : Int) (w : World) (h : MosR w WA MS) (hp : p.length ≤ 1048576) (hn : MS.length ≤ 1000) :
    Calls Tryz.prog 11 #[.slice WA MS.length wc, .int .i64 side, .string ⟨⟨p⟩⟩, .int .i64 m] w fun e w' => e = .returned (leafO (getR (rowM MS side m) p)) ∧ Below w.heap.size w w' := by
  have hb0 : Below w.heap.size w (w.alloc (.cells #[.int .i64 0, .slice none 0 0] 25)) := (Below.refl _ _).alloc (Nat.le_refl _) _
  have hk0 := Blk.new w 25 #[.int .i64 0, .slice none 0 0]
  have HM0 := Lib.hid (h.below hb0)
  obtain ⟨X, hX⟩ : ∃ X, X = leafO (getR (rowM MS side m) p) := ⟨_, rfl⟩
  rw [← hX]
  obtain ⟨lb, hlb⟩ : ∃ lb, lb = w.heap.size := ⟨_, rfl⟩
  rw [← hlb] at hk0
  have hlb2 : w.heap.size ≤ lb := by omega
  clear h
  go_enter Tryz.func11, Tryz.ntmps11
  go_upto_region 1 with (fail)
  rw [← hlb]
  clear hlb
  generalize w.alloc (.cells #[.int .i64 0, .slice none 0 0] 25) = w0 at *
  by_cases hm0 : m < 0
  · have hd0 : decide (m < 0) = true := decide_eq_true hm0
    have HX : Hid (X = .agg #[.int .i64 0, .slice none 0 0]) := Lib.hid (by rw [hX]; unfold rowM; rw [if_neg (by omega)]; rfl)
    clear hX
    have e0 := hk0.cell 0
    have e1 := hk0.cell 1
    simp only [List.getElem?_toArray, List.getElem?_cons_zero, List.getElem?_cons_succ] at e0 e1
    have kE := (hk0.set_ 0 (.int .i64 0)).set_ 1 (.slice none 0 0)
    simp only [List.setIfInBounds_toArray, List.set_cons_zero, List.set_cons_succ] at kE
    have fz := fun j => hk0.frozen j
    have kF : Fr (fun x => x = lb) w0 ((w0.setCell ⟨lb, 0, none⟩ (.int .i64 0)).setCell ⟨lb, 1, none⟩ (.slice none 0 0)) := ((Fr.refl (fun x => x = lb) w0).setAt lb _ rfl _).setAt lb _ rfl _
    have hwE : Below w.heap.size w ((w0.setCell ⟨lb, 0, none⟩ (.int .i64 0)).setCell ⟨lb, 1, none⟩ (.slice none 0 0)) := hb0.trans (kF.below (B := w.heap.size) hb0.size (fun k hk e => by omega))
    clear kF
    go_wp2_with fail
    clear e0 e1
    generalize (w0.setCell ⟨lb, 0, none⟩ (.int .i64 0)).setCell ⟨lb, 1, none⟩ (.slice none 0 0) = wE at *
    have e0 := kE.cell 0
    have e1 := kE.cell 1
    simp only [List.getElem?_toArray, List.getElem?_cons_zero, List.getElem?_cons_succ] at e0 e1
    refine bodyPost_ret (v := .agg #[.int .i64 0, .slice none 0 0]) (by simp [results, Tryz.results11, go_sem, e0, e1]) rfl ?_
    exact ⟨by rw [HX.out], hwE⟩
  · have hd0 : decide (m < 0) = false := decide_eq_false hm0
    by_cases hmn : (MS.length : Int) ≤ m
    · have hd1 : decide ((MS.length : Int) ≤ m) = true := decide_eq_true hmn
      have HX : Hid (X = .agg #[.int .i64 0, .slice none 0 0]) := Lib.hid (by rw [hX]; unfold rowM; rw [if_neg (by omega)]; rfl)
      clear hX
      have e0 := hk0.cell 0
      have e1 := hk0.cell 1
      simp only [List.getElem?_toArray, List.getElem?_cons_zero, List.getElem?_cons_succ] at e0 e1
      have kE := (hk0.set_ 0 (.int .i64 0)).set_ 1 (.slice none 0 0)
      simp only [List.setIfInBounds_toArray, List.set_cons_zero, List.set_cons_succ] at kE
      have fz := fun j => hk0.frozen j
      have kF : Fr (fun x => x = lb) w0 ((w0.setCell ⟨lb, 0, none⟩ (.int .i64 0)).setCell ⟨lb, 1, none⟩ (.slice none 0 0)) := ((Fr.refl (fun x => x = lb) w0).setAt lb _ rfl _).setAt lb _ rfl _
      have hwE : Below w.heap.size w ((w0.setCell ⟨lb, 0, none⟩ (.int .i64 0)).setCell ⟨lb, 1, none⟩ (.slice none 0 0)) := hb0.trans (kF.below (B := w.heap.size) hb0.size (fun k hk e => by omega))
      clear kF
      go_wp2_with fail
      clear e0 e1
      generalize (w0.setCell ⟨lb, 0, none⟩ (.int .i64 0)).setCell ⟨lb, 1, none⟩ (.slice none 0 0) = wE at *
      have e0 := kE.cell 0
      have e1 := kE.cell 1
      simp only [List.getElem?_toArray, List.getElem?_cons_zero, List.getElem?_cons_succ] at e0 e1
      refine bodyPost_ret (v := .agg #[.int .i64 0, .slice none 0 0]) (by simp [results, Tryz.results11, go_sem, e0, e1]) rfl ?_
      exact ⟨by rw [HX.out], hwE⟩
    · have hd1 : decide ((MS.length : Int) ≤ m) = false := decide_eq_false hmn
      obtain ⟨k, rfl⟩ : ∃ k : Nat, m = (k : Int) := ⟨m.toNat, by omega⟩
      have hkl : k < MS.length := by omega
      by_cases h1 : side = 1
      · subst h1
        obtain ⟨b, off, rfl, hbb, c0, c1⟩ := HM0.out.at_ hkl
        have hM : Hid (rowM MS 1 (k : Int) = MS[k].L) := Lib.hid (by
          unfold rowM
          rw [if_pos ⟨by omega, by omega⟩, Int.toNat_natCast, List.getElem?_eq_getElem hkl]
          rfl)
        have hit := (HM0.out.its _ (List.getElem_mem hkl)).1
        rw [← hM.out] at hit
        rw [← hM.out] at c0
        have HG := Lib.hid (fun W (hW : Below w0.heap.size w0 W) => refGet08_any MS[k].A MS[k].c (rowM MS 1 (k : Int)) p W (hit.below hW) (by omega))
        obtain ⟨xk, xA, xc, xl, hx, _, _⟩ := leafO_by hit p
        rw [hx] at HG
        have HX : Hid (X = .agg #[.int .i64 xk, .slice xA xl.length xc]) := Lib.hid (by rw [hX, hx])
        clear hM hit hx hX
        go_wp2_with fail
        refine (HG.out w0 (Below.refl _ _)).mono ?_
        rintro e w2 ⟨rfl, hb2⟩
        have hk2 := hk0.below hb2
        have hw2 := hb0.trans (hb2.mono hb0.size)
        clear HG c0 c1
        have e0 := hk2.cell 0
        have e1 := hk2.cell 1
        simp only [List.getElem?_toArray, List.getElem?_cons_zero, List.getElem?_cons_succ] at e0 e1
        have kE := (hk2.set_ 0 (.int .i64 xk)).set_ 1 (.slice xA xl.length xc)
        simp only [List.setIfInBounds_toArray, List.set_cons_zero, List.set_cons_succ] at kE
        have fz := fun j => hk2.frozen j
        have kF : Fr (fun x => x = lb) w2 ((w2.setCell ⟨lb, 0, none⟩ (.int .i64 xk)).setCell ⟨lb, 1, none⟩ (.slice xA xl.length xc)) := ((Fr.refl (fun x => x = lb) w2).setAt lb _ rfl _).setAt lb _ rfl _
        have hwE : Below w.heap.size w ((w2.setCell ⟨lb, 0, none⟩ (.int .i64 xk)).setCell ⟨lb, 1, none⟩ (.slice xA xl.length xc)) := hw2.trans (kF.below (B := w.heap.size) hw2.size (fun k hk e => by omega))
        clear kF
        go_wp2_with fail
        clear e0 e1
        generalize (w2.setCell ⟨lb, 0, none⟩ (.int .i64 xk)).setCell ⟨lb, 1, none⟩ (.slice xA xl.length xc) = wE at *
        have e0 := kE.cell 0
        have e1 := kE.cell 1
        simp only [List.getElem?_toArray, List.getElem?_cons_zero, List.getElem?_cons_succ] at e0 e1
        refine bodyPost_ret (v := .agg #[.int .i64 xk, .slice xA xl.length xc]) (by simp [results, Tryz.results11, go_sem, e0, e1]) rfl ?_
        exact ⟨by rw [HX.out], hwE⟩
      · by_cases h2 : side = 2
        · subst h2
          obtain ⟨b, off, rfl, hbb, c0, c1⟩ := HM0.out.at_ hkl
          have hM : Hid (rowM MS 2 (k : Int) = MS[k].M) := Lib.hid (by
            unfold rowM
            rw [if_pos ⟨by omega, by omega⟩, Int.toNat_natCast, List.getElem?_eq_getElem hkl]
            rfl)
          have hit := (HM0.out.its _ (List.getElem_mem hkl)).2
          rw [← hM.out] at hit
          rw [← hM.out] at c1
          have HG := Lib.hid (fun W (hW : Below w0.heap.size w0 W) => refGet08_any MS[k].B MS[k].d (rowM MS 2 (k : Int)) p W (hit.below hW) (by omega))
          obtain ⟨xk, xA, xc, xl, hx, _, _⟩ := leafO_by hit p
          rw [hx] at HG
          have HX : Hid (X = .agg #[.int .i64 xk, .slice xA xl.length xc]) := Lib.hid (by rw [hX, hx])
          clear hM hit hx hX
          go_wp2_with fail
          refine (HG.out w0 (Below.refl _ _)).mono ?_
          rintro e w2 ⟨rfl, hb2⟩
          have hk2 := hk0.below hb2
          have hw2 := hb0.trans (hb2.mono hb0.size)
          clear HG c0 c1
          have e0 := hk2.cell 0
          have e1 := hk2.cell 1
          simp only [List.getElem?_toArray, List.getElem?_cons_zero, List.getElem?_cons_succ] at e0 e1
          have kE := (hk2.set_ 0 (.int .i64 xk)).set_ 1 (.slice xA xl.length xc)
          simp only [List.setIfInBounds_toArray, List.set_cons_zero, List.set_cons_succ] at kE
          have fz := fun j => hk2.frozen j
          have kF : Fr (fun x => x = lb) w2 ((w2.setCell ⟨lb, 0, none⟩ (.int .i64 xk)).setCell ⟨lb, 1, none⟩ (.slice xA xl.length xc)) := ((Fr.refl (fun x => x = lb) w2).setAt lb _ rfl _).setAt lb _ rfl _
          have hwE : Below w.heap.size w ((w2.setCell ⟨lb, 0, none⟩ (.int .i64 xk)).setCell ⟨lb, 1, none⟩ (.slice xA xl.length xc)) := hw2.trans (kF.below (B := w.heap.size) hw2.size (fun k hk e => by omega))
          clear kF
          go_wp2_with fail
          clear e0 e1
          generalize (w2.setCell ⟨lb, 0, none⟩ (.int .i64 xk)).setCell ⟨lb, 1, none⟩ (.slice xA xl.length xc) = wE at *
          have e0 := kE.cell 0
          have e1 := kE.cell 1
          simp only [List.getElem?_toArray, List.getElem?_cons_zero, List.getElem?_cons_succ] at e0 e1
          refine bodyPost_ret (v := .agg #[.int .i64 xk, .slice xA xl.length xc]) (by simp [results, Tryz.results11, go_sem, e0, e1]) rfl ?_
          exact ⟨by rw [HX.out], hwE⟩
        · have HX : Hid (X = .agg #[.int .i64 0, .slice none 0 0]) := Lib.hid (by rw [hX]; unfold rowM; rw [if_neg h1, if_neg h2]; split <;> rfl)
          have e1 : (side == 1) = false := by simpa using h1
          have e2 : (side == 2) = false := by simpa using h2
          clear hX
          have e0 := hk0.cell 0
          have e1 := hk0.cell 1
          simp only [List.getElem?_toArray, List.getElem?_cons_zero, List.getElem?_cons_succ] at e0 e1
          have kE := (hk0.set_ 0 (.int .i64 0)).set_ 1 (.slice none 0 0)
          simp only [List.setIfInBounds_toArray, List.set_cons_zero, List.set_cons_succ] at kE
          have fz := fun j => hk0.frozen j
          have kF : Fr (fun x => x = lb) w0 ((w0.setCell ⟨lb, 0, none⟩ (.int .i64 0)).setCell ⟨lb, 1, none⟩ (.slice none 0 0)) := ((Fr.refl (fun x => x = lb) w0).setAt lb _ rfl _).setAt lb _ rfl _
          have hwE : Below w.heap.size w ((w0.setCell ⟨lb, 0, none⟩ (.int .i64 0)).setCell ⟨lb, 1, none⟩ (.slice none 0 0)) := hb0.trans (kF.below (B := w.heap.size) hb0.size (fun k hk e => by omega))
          clear kF
          go_wp2_with fail
          clear e0 e1
          generalize (w0.setCell ⟨lb, 0, none⟩ (.int .i64 0)).setCell ⟨lb, 1, none⟩ (.slice none 0 0) = wE at *
          have e0 := kE.cell 0
          have e1 := kE.cell 1
          simp only [List.getElem?_toArray, List.getElem?_cons_zero, List.getElem?_cons_succ] at e0 e1
          refine bodyPost_ret (v := .agg #[.int .i64 0, .slice none 0 0]) (by simp [results, Tryz.results11, go_sem, e0, e1]) rfl ?_
          exact ⟨by rw [HX.out], hwE⟩

end Go.Proofs.YtdnljmncdbcgeaaGreat
