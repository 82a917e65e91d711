/- tenderref08: Set. -/
import Derived.Test.YtkeledbgmpienaaA07
import Derived.Tactics2
import Derived.Shelf.SlSortCmp.NoneTotal
import Derived.Ground.SlsfProg
import Derived.Shelf.SlMaps.Clone
import Derived.Ground.SlmcProg
import Derived.Test.YtkeledbgmpienaaProg

namespace Go.Proofs.Ytkeledbgmpienaa
open Go.RowKit

theorem paste_nil : ∀ (l : List (List UInt8)), pasteL l = [] → l = [] ∨ l = [[]]
  | [], _ => .inl rfl
  | [x], h => .inr (by rw [show x = [] from h])
  | x :: y :: l, h => by
    rw [pasteL] at h
    simp at h
/-- a parent is no empty path -/
theorem par_ne (p : List UInt8) : (parT p).2 = true ↔ (parT p).1 ≠ [] := by
  unfold parT
  split
  · rename_i h
    refine ⟨fun _ => ?_, fun _ => rfl⟩
    show pasteL _ ≠ []
    simp only [Bool.and_eq_true, decide_eq_true_eq] at h
    intro e
    have hg := h.1
    unfold goodB at hg
    simp only [Bool.and_eq_true, decide_eq_true_eq] at hg
    rcases paste_nil _ e with e | e
    · have := congrArg List.length e
      rw [List.length_dropLast] at this
      simp at this
      omega
    · have hm : ([] : List UInt8) ∈ cutL p := List.dropLast_subset _ (by rw [e]; simp)
      have := List.all_eq_true.1 hg.1.2 _ hm
      revert this
      decide
  · simp
theorem Its.putI {w w' : World} {A A' : Option Addr} {c' : Nat} {base : Nat} {L : List (List UInt8 × LV)} {p : List UInt8} {v : LV} (h : Its w A L) (ho : OwI w' base A' c' (putI L p v)) (hy : v.x.ok w (fun _ => True)) (hp : p.length ≤ 1048576) (hv : v.x.l.length ≤ 140737488355328) (hn : L.length ≤ 1000000) (k : Below w.heap.size w w') : Its w' A' (putI L p v) := by
  have hm : ∀ x ∈ Go.Proofs.Ytkeledbgmpienaa.putI L p v, x = (p, v) ∨ x ∈ L := by
    intro x hx
    unfold Go.Proofs.Ytkeledbgmpienaa.putI at hx
    split at hx
    · exact .inr (List.mem_filter.1 hx).1
    · rcases mem_ins.1 hx with e | e
      · exact .inl e
      · exact .inr (List.mem_filter.1 e).1
  refine ho.its (fun x hx => ?_) ?_ (fun x hx => ?_)
  · rcases hm x hx with rfl | e
    · exact hy.below k
    · exact (h.ok x e).below k
  · unfold Go.Proofs.Ytkeledbgmpienaa.putI
    have := without_len_le L p
    split
    · omega
    · unfold putR
      rw [ins_len]
      omega
  · rcases hm x hx with rfl | e
    · exact ⟨hp, hv⟩
    · exact h.txt x e
theorem kind_none {L : List (List UInt8 × LV)} (h : TreeOk (plainL L)) (p : List UInt8) : (kindL (getR (plainL L) p) = 0) ↔ (getR (plainL L) p).isNone = true := by
  rcases hg : getR (plainL L) p with _ | v
  · simp [kindL]
  · have h3 : v.1 = 1 ∨ v.1 = 2 := (h.good _ (getR_mem hg)).2.1
    refine ⟨fun e => ?_, fun e => by cases e⟩
    have e2 : v.1 = 0 := e
    omega
theorem leafO_form (o : Option LV) : ∃ vv, leafO o = .agg #[.int .i64 (kindL (o.map LV.p)), vv] := by
  rcases o with _ | ⟨k, A, c, l⟩
  · exact ⟨_, rfl⟩
  · exact ⟨_, rfl⟩
/-- what Set gives -/
def RefTo (w w' : World) (e : Ending) (M : Int) (T : List (List UInt8 × LV)) : Prop :=
  ∃ (A' : Option Addr) (c' : Nat) (l : List (List UInt8 × LV)), e = .returned (.tuple #[.slice A' l.length c', .int .i64 M]) ∧ Hid (l = T) ∧ Its w' A' l ∧ Below w.heap.size w w'
set_option maxRecDepth 100000 in
set_option maxHeartbeats 4000000 in
theorem refSet_any (A : Option Addr) (c : Nat) (L : List (List UInt8 × LV)) (p : List UInt8) (k : Int) (bA : Option Addr) (bc : Nat) (bl : List UInt8) (w : World) (h : Its w A L) (hok : TreeOk (plainL L)) (hy : BV.ok w (fun _ => True) ⟨bA, bc, bl⟩) (hp : p.length ≤ 1048576) (hn : bl.length ≤ 140737488355328) :
    Calls Try.prog 29 #[.slice A L.length c, .string ⟨⟨p⟩⟩, .agg #[.int .i64 k, .slice bA bl.length bc]] w fun e w' => RefTo w w' e (mayS (plainL L) p (k, bl)) (if mayS (plainL L) p (k, bl) = 0 then putI L p ⟨k, ⟨bA, bc, bl⟩⟩ else L) := by
  obtain ⟨M, hM⟩ : ∃ M, M = mayS (plainL L) p (k, bl) := ⟨_, rfl⟩
  obtain ⟨T, hT⟩ : ∃ T, T = if M = 0 then putI L p ⟨k, ⟨bA, bc, bl⟩⟩ else L := ⟨_, rfl⟩
  rw [← hM, ← hT]
  have HM := Lib.hid hM
  have HA : Hid (M = 0 → Hid (T = putI L p ⟨k, ⟨bA, bc, bl⟩⟩)) := fun e => Lib.hid (by rw [hT, if_pos e])
  have HB : Hid (M ≠ 0 → Hid (L = T)) := fun e => Lib.hid (by rw [hT, if_neg e])
  have HT := Lib.hid h
  have HY := Lib.hid hy
  have hpl : (plainL L).length = L.length := by simp [plainL]
  have hLn : L.length ≤ 1000000 := by have := hok.len; rw [hpl] at this; omega
  have hb0 : Below w.heap.size w (w.alloc (.cells #[.int .i64 k, .slice bA bl.length bc] 54)) := (by repeat (first | exact Below.refl _ _ | refine Below.alloc ?_ (by simp) _ | refine Below.setCell ?_ (by simp) _ | refine Below.drew ?_))
  have x0 := Blk.new w 54 #[.int .i64 k, .slice bA bl.length bc]
  have HCK := Lib.hid (fun W => leafCheckR_any k bA bl.length bc W hn)
  clear h hM hT hy
  go_enter Try.func29, Try.ntmps29
  go_wp2_with fail
  refine (refGood_any ⟨⟨p⟩⟩ (by show p.length ≤ _; omega) _).mono ?_
  rintro e w1 ⟨rfl, hb1⟩
  rw [show tl ⟨⟨p⟩⟩ = p from rfl]
  have hw1 := hb0.trans (hb1.mono hb0.size)
  have x1 := x0.below hb1
  clear hb1 x0 hb0
  cases hg : goodB p
  · obtain rfl : M = 23 := by rw [HM.out]; unfold mayS; rw [if_pos hg]
    obtain rfl := (HB.out (by decide)).out
    clear HM
    go_wp2_with fail
    go_ret2
    exact ⟨A, c, L, rfl, rfl, HT.out.below hw1, hw1⟩
  · have hp96 := goodB_len hg
    have q0 : w1.cell? ⟨w.heap.size, 0, none⟩ = some (.int .i64 k) := x1.cell 0
    have q1 : w1.cell? ⟨w.heap.size, 1, none⟩ = some (.slice bA bl.length bc) := x1.cell 1
    go_wp2_with fail
    refine (HCK.out _).mono ?_
    rintro e w2 ⟨rfl, hb2⟩
    have hw2 := hw1.trans (hb2.mono hw1.size)
    have x2 := x1.below hb2
    clear q0 q1 hb2 x1 hw1 HCK
    by_cases hc : checkN k bl.length = 0
    · rw [hc]
      have q0 : w2.cell? ⟨w.heap.size, 0, none⟩ = some (.int .i64 k) := x2.cell 0
      have HM1 : Hid (M = if k ≠ 2 ∧ ((keysR (plainL L)).filter fun q => underB q p) ≠ [] then 22 else if k = 0 then 0 else (if (parT p).2 = true ∧ kindL (getR (plainL L) (parT p).1) ≠ 2 then 22 else if (getR (plainL L) p).isNone ∧ 128 ≤ (plainL L).length then 24 else 0)) := by
        show _ = _
        rw [HM.out]
        unfold mayS
        rw [if_neg (by rw [hg]; simp), if_neg (by simpa using hc)]
      clear HM
      have hk := checkN_kind hc
      clear hc
      rcases hk with rfl | rfl | rfl
      · have HM : Hid (M = if ((keysR (plainL L)).filter fun q => underB q p) ≠ [] then 22 else 0) := by
          show _ = _
          rw [HM1.out]
          simp
        clear HM1
        go_wp2_with fail
        refine (refBelow_any A c L p w2 (HT.out.below hw2) hp).mono ?_
        rintro e w3 ⟨⟨A3, c3, l3, rfl, hl3, _⟩, hb3⟩
        have hw3 := hw2.trans (hb3.mono hw2.size)
        have xb := x2.below hb3
        have hlk : ((keysR (plainL L)).filter fun q => underB q p) = l3 := by rw [keys_plain]; exact hl3.out.symm
        rw [hlk] at HM
        clear hl3 hlk q0 x2 hb3
        have q0 : w3.cell? ⟨w.heap.size, 0, none⟩ = some (.int .i64 0) := xb.cell 0
        rcases l3 with _ | ⟨y, l3⟩
        · rw [if_neg (by simp)] at HM
          go_wp2_with fail
          obtain rfl : M = 0 := HM.out
          have hTv := HA.out rfl
          clear HM
          refine (refWithout_any A c L p w3 (HT.out.below hw3)).mono ?_
          rintro e w7 ⟨⟨A7, c7, l7, rfl, hl7, ho7⟩, hb7⟩
          have hw7 := hw3.trans (hb7.mono hw3.size)
          have hI7 : Its w7 A7 l7 := by
            rw [hl7.out] at ho7 ⊢
            exact HT.out.without ho7 hw7
          have e7 : Hid (l7 = T) := by show _ = _; rw [hl7.out, hTv.out]; rfl
          clear hl7 ho7
          go_wp2_with fail
          go_ret2
          exact ⟨A7, c7, l7, rfl, e7, hI7, hw7⟩
        · rw [if_pos (by simp)] at HM
          obtain rfl : M = 22 := HM.out
          obtain rfl := (HB.out (by decide)).out
          have hl0 : 0 < (y :: l3).length := by simp
          generalize (y :: l3).length = n3 at *
          clear HM
          go_wp2_with fail
          go_ret2
          exact ⟨A, c, L, rfl, rfl, HT.out.below hw3, hw3⟩

      · have HM : Hid (M = if ((keysR (plainL L)).filter fun q => underB q p) ≠ [] then 22 else (if (parT p).2 = true ∧ kindL (getR (plainL L) (parT p).1) ≠ 2 then 22 else if (getR (plainL L) p).isNone ∧ 128 ≤ (plainL L).length then 24 else 0)) := by
          show _ = _
          rw [HM1.out]
          simp
        clear HM1
        go_wp2_with fail
        refine (refBelow_any A c L p w2 (HT.out.below hw2) hp).mono ?_
        rintro e w3 ⟨⟨A3, c3, l3, rfl, hl3, _⟩, hb3⟩
        have hw3 := hw2.trans (hb3.mono hw2.size)
        have xb := x2.below hb3
        have hlk : ((keysR (plainL L)).filter fun q => underB q p) = l3 := by rw [keys_plain]; exact hl3.out.symm
        rw [hlk] at HM
        clear hl3 hlk q0 x2 hb3
        have q0 : w3.cell? ⟨w.heap.size, 0, none⟩ = some (.int .i64 1) := xb.cell 0
        rcases l3 with _ | ⟨y, l3⟩
        · rw [if_neg (by simp)] at HM
          go_wp2_with fail
          clear q0
          refine (refParent_any ⟨⟨p⟩⟩ (by show p.length ≤ _; omega) w3).mono ?_
          rintro e w4 ⟨⟨⟨t⟩⟩, rfl, ht, hb4⟩
          rw [show tl ⟨⟨p⟩⟩ = p from rfl, show tl ⟨⟨t⟩⟩ = t from rfl] at ht
          have htl : t.length ≤ 96 := by rw [ht.out]; exact parT_len p
          have hpo := par_ne p
          rw [← ht.out] at hpo HM
          have hw4 := hw3.trans (hb4.mono hw3.size)
          have xb4 := xb.below hb4
          clear ht hb4 xb
          by_cases ht0 : t = []
          · subst ht0
            rw [if_neg (by rw [hpo]; simp)] at HM
            clear hpo
            go_wp2_with fail
            refine (refGet08_any A c L p w4 (HT.out.below hw4) (by omega)).mono ?_
            rintro e w6 ⟨rfl, hb6⟩
            have hw6 := hw4.trans (hb6.mono hw4.size)
            have xb6 := xb4.below hb6
            clear hb6 xb4
            have hkn := kind_none hok p
            rw [get_plain] at hkn HM
            obtain ⟨vv, hv⟩ := leafO_form (getR L p)
            rw [hv]
            generalize kindL ((getR L p).map LV.p) = kp at *
            have hfk := fun W => leaf_kind kp vv W
            clear hv
            by_cases hk0 : kp = 0
            · subst hk0
              have hin := hkn.1 rfl
              rw [hin] at HM
              by_cases h128 : 128 ≤ L.length
              · obtain rfl : M = 24 := by rw [HM.out, if_pos ⟨rfl, by rw [hpl]; exact h128⟩]
                obtain rfl := (HB.out (by decide)).out
                clear HM hkn hin
                go_wp2_with fail
                go_ret2
                exact ⟨A, c, L, rfl, rfl, HT.out.below hw6, hw6⟩
              · obtain rfl : M = 0 := by rw [HM.out, if_neg (fun e => h128 (by rw [← hpl]; exact e.2))]
                have hTv := HA.out rfl
                clear HM hkn hin
                have q0 : w6.cell? ⟨w.heap.size, 0, none⟩ = some (.int .i64 1) := xb6.cell 0
                have q1 : w6.cell? ⟨w.heap.size, 1, none⟩ = some (.slice bA bl.length bc) := xb6.cell 1
                go_wp2_with fail
                refine (refPut_any A c L p 1 bA bc bl w6 (HT.out.below hw6) hp hLn).mono ?_
                rintro e w7 ⟨⟨A7, c7, l7, rfl, hl7, ho7⟩, hb7⟩
                have hw7 := hw6.trans (hb7.mono hw6.size)
                have hI7 : Its w7 A7 l7 := by
                  rw [hl7.out] at ho7 ⊢
                  exact HT.out.putI ho7 HY.out hp hn hLn hw7
                have e7 : Hid (l7 = T) := by show _ = _; rw [hl7.out, hTv.out]
                clear hl7 ho7
                go_wp2_with fail
                go_ret2
                exact ⟨A7, c7, l7, rfl, e7, hI7, hw7⟩
            · have hk0b : (kp == 0) = false := by simpa using hk0
              obtain rfl : M = 0 := by rw [HM.out, if_neg (fun e => hk0 (hkn.2 e.1))]
              have hTv := HA.out rfl
              clear HM hkn hk0
              have q0 : w6.cell? ⟨w.heap.size, 0, none⟩ = some (.int .i64 1) := xb6.cell 0
              have q1 : w6.cell? ⟨w.heap.size, 1, none⟩ = some (.slice bA bl.length bc) := xb6.cell 1
              go_wp2_with fail
              refine (refPut_any A c L p 1 bA bc bl w6 (HT.out.below hw6) hp hLn).mono ?_
              rintro e w7 ⟨⟨A7, c7, l7, rfl, hl7, ho7⟩, hb7⟩
              have hw7 := hw6.trans (hb7.mono hw6.size)
              have hI7 : Its w7 A7 l7 := by
                rw [hl7.out] at ho7 ⊢
                exact HT.out.putI ho7 HY.out hp hn hLn hw7
              have e7 : Hid (l7 = T) := by show _ = _; rw [hl7.out, hTv.out]
              clear hl7 ho7
              go_wp2_with fail
              go_ret2
              exact ⟨A7, c7, l7, rfl, e7, hI7, hw7⟩
          · have htb : (t == []) = false := by simpa using ht0
            have h2t : (parT p).2 = true := hpo.2 ht0
            rw [h2t, get_plain] at HM
            clear hpo h2t
            go_wp2_with fail
            refine (refGet08_any A c L t w4 (HT.out.below hw4) (by omega)).mono ?_
            rintro e w5 ⟨rfl, hb5⟩
            have hw5 := hw4.trans (hb5.mono hw4.size)
            have xb5 := xb4.below hb5
            clear hb5 xb4
            obtain ⟨vt, hvt⟩ := leafO_form (getR L t)
            rw [hvt]
            generalize kindL ((getR L t).map LV.p) = kt at *
            have hft := fun W => leaf_kind kt vt W
            clear hvt
            by_cases hk2 : kt = 2
            · subst hk2
              rw [if_neg (by simp)] at HM
              go_wp2_with fail
              refine (refGet08_any A c L p w5 (HT.out.below hw5) (by omega)).mono ?_
              rintro e w6 ⟨rfl, hb6⟩
              have hw6 := hw5.trans (hb6.mono hw5.size)
              have xb6 := xb5.below hb6
              clear hb6 xb5
              have hkn := kind_none hok p
              rw [get_plain] at hkn HM
              obtain ⟨vv, hv⟩ := leafO_form (getR L p)
              rw [hv]
              generalize kindL ((getR L p).map LV.p) = kp at *
              have hfk := fun W => leaf_kind kp vv W
              clear hv
              by_cases hk0 : kp = 0
              · subst hk0
                have hin := hkn.1 rfl
                rw [hin] at HM
                by_cases h128 : 128 ≤ L.length
                · obtain rfl : M = 24 := by rw [HM.out, if_pos ⟨rfl, by rw [hpl]; exact h128⟩]
                  obtain rfl := (HB.out (by decide)).out
                  clear HM hkn hin
                  go_wp2_with fail
                  go_ret2
                  exact ⟨A, c, L, rfl, rfl, HT.out.below hw6, hw6⟩
                · obtain rfl : M = 0 := by rw [HM.out, if_neg (fun e => h128 (by rw [← hpl]; exact e.2))]
                  have hTv := HA.out rfl
                  clear HM hkn hin
                  have q0 : w6.cell? ⟨w.heap.size, 0, none⟩ = some (.int .i64 1) := xb6.cell 0
                  have q1 : w6.cell? ⟨w.heap.size, 1, none⟩ = some (.slice bA bl.length bc) := xb6.cell 1
                  go_wp2_with fail
                  refine (refPut_any A c L p 1 bA bc bl w6 (HT.out.below hw6) hp hLn).mono ?_
                  rintro e w7 ⟨⟨A7, c7, l7, rfl, hl7, ho7⟩, hb7⟩
                  have hw7 := hw6.trans (hb7.mono hw6.size)
                  have hI7 : Its w7 A7 l7 := by
                    rw [hl7.out] at ho7 ⊢
                    exact HT.out.putI ho7 HY.out hp hn hLn hw7
                  have e7 : Hid (l7 = T) := by show _ = _; rw [hl7.out, hTv.out]
                  clear hl7 ho7
                  go_wp2_with fail
                  go_ret2
                  exact ⟨A7, c7, l7, rfl, e7, hI7, hw7⟩
              · have hk0b : (kp == 0) = false := by simpa using hk0
                obtain rfl : M = 0 := by rw [HM.out, if_neg (fun e => hk0 (hkn.2 e.1))]
                have hTv := HA.out rfl
                clear HM hkn hk0
                have q0 : w6.cell? ⟨w.heap.size, 0, none⟩ = some (.int .i64 1) := xb6.cell 0
                have q1 : w6.cell? ⟨w.heap.size, 1, none⟩ = some (.slice bA bl.length bc) := xb6.cell 1
                go_wp2_with fail
                refine (refPut_any A c L p 1 bA bc bl w6 (HT.out.below hw6) hp hLn).mono ?_
                rintro e w7 ⟨⟨A7, c7, l7, rfl, hl7, ho7⟩, hb7⟩
                have hw7 := hw6.trans (hb7.mono hw6.size)
                have hI7 : Its w7 A7 l7 := by
                  rw [hl7.out] at ho7 ⊢
                  exact HT.out.putI ho7 HY.out hp hn hLn hw7
                have e7 : Hid (l7 = T) := by show _ = _; rw [hl7.out, hTv.out]
                clear hl7 ho7
                go_wp2_with fail
                go_ret2
                exact ⟨A7, c7, l7, rfl, e7, hI7, hw7⟩
            · have hk2b : (kt != 2) = true := by simpa using hk2
              obtain rfl : M = 22 := by rw [HM.out, if_pos ⟨trivial, hk2⟩]
              obtain rfl := (HB.out (by decide)).out
              clear HM hk2
              go_wp2_with fail
              go_ret2
              exact ⟨A, c, L, rfl, rfl, HT.out.below hw5, hw5⟩

        · rw [if_pos (by simp)] at HM
          obtain rfl : M = 22 := HM.out
          obtain rfl := (HB.out (by decide)).out
          have hl0 : 0 < (y :: l3).length := by simp
          generalize (y :: l3).length = n3 at *
          clear HM
          go_wp2_with fail
          go_ret2
          exact ⟨A, c, L, rfl, rfl, HT.out.below hw3, hw3⟩

      · have HM : Hid (M = (if (parT p).2 = true ∧ kindL (getR (plainL L) (parT p).1) ≠ 2 then 22 else if (getR (plainL L) p).isNone ∧ 128 ≤ (plainL L).length then 24 else 0)) := by
          show _ = _
          rw [HM1.out]
          simp
        clear HM1
        go_wp2_with fail
        have xb := x2
        clear x2
        clear q0
        refine (refParent_any ⟨⟨p⟩⟩ (by show p.length ≤ _; omega) w2).mono ?_
        rintro e w4 ⟨⟨⟨t⟩⟩, rfl, ht, hb4⟩
        rw [show tl ⟨⟨p⟩⟩ = p from rfl, show tl ⟨⟨t⟩⟩ = t from rfl] at ht
        have htl : t.length ≤ 96 := by rw [ht.out]; exact parT_len p
        have hpo := par_ne p
        rw [← ht.out] at hpo HM
        have hw4 := hw2.trans (hb4.mono hw2.size)
        have xb4 := xb.below hb4
        clear ht hb4 xb
        by_cases ht0 : t = []
        · subst ht0
          rw [if_neg (by rw [hpo]; simp)] at HM
          clear hpo
          go_wp2_with fail
          refine (refGet08_any A c L p w4 (HT.out.below hw4) (by omega)).mono ?_
          rintro e w6 ⟨rfl, hb6⟩
          have hw6 := hw4.trans (hb6.mono hw4.size)
          have xb6 := xb4.below hb6
          clear hb6 xb4
          have hkn := kind_none hok p
          rw [get_plain] at hkn HM
          obtain ⟨vv, hv⟩ := leafO_form (getR L p)
          rw [hv]
          generalize kindL ((getR L p).map LV.p) = kp at *
          have hfk := fun W => leaf_kind kp vv W
          clear hv
          by_cases hk0 : kp = 0
          · subst hk0
            have hin := hkn.1 rfl
            rw [hin] at HM
            by_cases h128 : 128 ≤ L.length
            · obtain rfl : M = 24 := by rw [HM.out, if_pos ⟨rfl, by rw [hpl]; exact h128⟩]
              obtain rfl := (HB.out (by decide)).out
              clear HM hkn hin
              go_wp2_with fail
              go_ret2
              exact ⟨A, c, L, rfl, rfl, HT.out.below hw6, hw6⟩
            · obtain rfl : M = 0 := by rw [HM.out, if_neg (fun e => h128 (by rw [← hpl]; exact e.2))]
              have hTv := HA.out rfl
              clear HM hkn hin
              have q0 : w6.cell? ⟨w.heap.size, 0, none⟩ = some (.int .i64 2) := xb6.cell 0
              have q1 : w6.cell? ⟨w.heap.size, 1, none⟩ = some (.slice bA bl.length bc) := xb6.cell 1
              go_wp2_with fail
              refine (refPut_any A c L p 2 bA bc bl w6 (HT.out.below hw6) hp hLn).mono ?_
              rintro e w7 ⟨⟨A7, c7, l7, rfl, hl7, ho7⟩, hb7⟩
              have hw7 := hw6.trans (hb7.mono hw6.size)
              have hI7 : Its w7 A7 l7 := by
                rw [hl7.out] at ho7 ⊢
                exact HT.out.putI ho7 HY.out hp hn hLn hw7
              have e7 : Hid (l7 = T) := by show _ = _; rw [hl7.out, hTv.out]
              clear hl7 ho7
              go_wp2_with fail
              go_ret2
              exact ⟨A7, c7, l7, rfl, e7, hI7, hw7⟩
          · have hk0b : (kp == 0) = false := by simpa using hk0
            obtain rfl : M = 0 := by rw [HM.out, if_neg (fun e => hk0 (hkn.2 e.1))]
            have hTv := HA.out rfl
            clear HM hkn hk0
            have q0 : w6.cell? ⟨w.heap.size, 0, none⟩ = some (.int .i64 2) := xb6.cell 0
            have q1 : w6.cell? ⟨w.heap.size, 1, none⟩ = some (.slice bA bl.length bc) := xb6.cell 1
            go_wp2_with fail
            refine (refPut_any A c L p 2 bA bc bl w6 (HT.out.below hw6) hp hLn).mono ?_
            rintro e w7 ⟨⟨A7, c7, l7, rfl, hl7, ho7⟩, hb7⟩
            have hw7 := hw6.trans (hb7.mono hw6.size)
            have hI7 : Its w7 A7 l7 := by
              rw [hl7.out] at ho7 ⊢
              exact HT.out.putI ho7 HY.out hp hn hLn hw7
            have e7 : Hid (l7 = T) := by show _ = _; rw [hl7.out, hTv.out]
            clear hl7 ho7
            go_wp2_with fail
            go_ret2
            exact ⟨A7, c7, l7, rfl, e7, hI7, hw7⟩
        · have htb : (t == []) = false := by simpa using ht0
          have h2t : (parT p).2 = true := hpo.2 ht0
          rw [h2t, get_plain] at HM
          clear hpo h2t
          go_wp2_with fail
          refine (refGet08_any A c L t w4 (HT.out.below hw4) (by omega)).mono ?_
          rintro e w5 ⟨rfl, hb5⟩
          have hw5 := hw4.trans (hb5.mono hw4.size)
          have xb5 := xb4.below hb5
          clear hb5 xb4
          obtain ⟨vt, hvt⟩ := leafO_form (getR L t)
          rw [hvt]
          generalize kindL ((getR L t).map LV.p) = kt at *
          have hft := fun W => leaf_kind kt vt W
          clear hvt
          by_cases hk2 : kt = 2
          · subst hk2
            rw [if_neg (by simp)] at HM
            go_wp2_with fail
            refine (refGet08_any A c L p w5 (HT.out.below hw5) (by omega)).mono ?_
            rintro e w6 ⟨rfl, hb6⟩
            have hw6 := hw5.trans (hb6.mono hw5.size)
            have xb6 := xb5.below hb6
            clear hb6 xb5
            have hkn := kind_none hok p
            rw [get_plain] at hkn HM
            obtain ⟨vv, hv⟩ := leafO_form (getR L p)
            rw [hv]
            generalize kindL ((getR L p).map LV.p) = kp at *
            have hfk := fun W => leaf_kind kp vv W
            clear hv
            by_cases hk0 : kp = 0
            · subst hk0
              have hin := hkn.1 rfl
              rw [hin] at HM
              by_cases h128 : 128 ≤ L.length
              · obtain rfl : M = 24 := by rw [HM.out, if_pos ⟨rfl, by rw [hpl]; exact h128⟩]
                obtain rfl := (HB.out (by decide)).out
                clear HM hkn hin
                go_wp2_with fail
                go_ret2
                exact ⟨A, c, L, rfl, rfl, HT.out.below hw6, hw6⟩
              · obtain rfl : M = 0 := by rw [HM.out, if_neg (fun e => h128 (by rw [← hpl]; exact e.2))]
                have hTv := HA.out rfl
                clear HM hkn hin
                have q0 : w6.cell? ⟨w.heap.size, 0, none⟩ = some (.int .i64 2) := xb6.cell 0
                have q1 : w6.cell? ⟨w.heap.size, 1, none⟩ = some (.slice bA bl.length bc) := xb6.cell 1
                go_wp2_with fail
                refine (refPut_any A c L p 2 bA bc bl w6 (HT.out.below hw6) hp hLn).mono ?_
                rintro e w7 ⟨⟨A7, c7, l7, rfl, hl7, ho7⟩, hb7⟩
                have hw7 := hw6.trans (hb7.mono hw6.size)
                have hI7 : Its w7 A7 l7 := by
                  rw [hl7.out] at ho7 ⊢
                  exact HT.out.putI ho7 HY.out hp hn hLn hw7
                have e7 : Hid (l7 = T) := by show _ = _; rw [hl7.out, hTv.out]
                clear hl7 ho7
                go_wp2_with fail
                go_ret2
                exact ⟨A7, c7, l7, rfl, e7, hI7, hw7⟩
            · have hk0b : (kp == 0) = false := by simpa using hk0
              obtain rfl : M = 0 := by rw [HM.out, if_neg (fun e => hk0 (hkn.2 e.1))]
              have hTv := HA.out rfl
              clear HM hkn hk0
              have q0 : w6.cell? ⟨w.heap.size, 0, none⟩ = some (.int .i64 2) := xb6.cell 0
              have q1 : w6.cell? ⟨w.heap.size, 1, none⟩ = some (.slice bA bl.length bc) := xb6.cell 1
              go_wp2_with fail
              refine (refPut_any A c L p 2 bA bc bl w6 (HT.out.below hw6) hp hLn).mono ?_
              rintro e w7 ⟨⟨A7, c7, l7, rfl, hl7, ho7⟩, hb7⟩
              have hw7 := hw6.trans (hb7.mono hw6.size)
              have hI7 : Its w7 A7 l7 := by
                rw [hl7.out] at ho7 ⊢
                exact HT.out.putI ho7 HY.out hp hn hLn hw7
              have e7 : Hid (l7 = T) := by show _ = _; rw [hl7.out, hTv.out]
              clear hl7 ho7
              go_wp2_with fail
              go_ret2
              exact ⟨A7, c7, l7, rfl, e7, hI7, hw7⟩
          · have hk2b : (kt != 2) = true := by simpa using hk2
            obtain rfl : M = 22 := by rw [HM.out, if_pos ⟨trivial, hk2⟩]
            obtain rfl := (HB.out (by decide)).out
            clear HM hk2
            go_wp2_with fail
            go_ret2
            exact ⟨A, c, L, rfl, rfl, HT.out.below hw5, hw5⟩

    · obtain rfl : M = checkN k bl.length := by rw [HM.out]; unfold mayS; rw [if_neg (by rw [hg]; simp), if_pos (by simpa using hc)]
      obtain rfl := (HB.out hc).out
      have hcb : (checkN k bl.length != 0) = true := by simpa using hc
      clear HM
      go_wp2_with fail
      go_ret2
      exact ⟨A, c, L, rfl, rfl, HT.out.below hw2, hw2⟩

end Go.Proofs.Ytkeledbgmpienaa

/- A map stays where only new memory comes. No program. -/
namespace Go.Proofs.Ytkeledbgmpienaa
open Go.RowKit Go.Maps

theorem MapAt.below {P : Program} {K : TypeId} {w w' : World} {b : Nat} {L : List (List UInt8 × Value)} (h : MapAt w P K b L) (k : Below w.heap.size w w') : MapAt w' P K b L := h.block (k.block b h.lt)
end Go.Proofs.Ytkeledbgmpienaa

/- tree.Tree.Set. -/
namespace Go.Proofs.Ytkeledbgmpienaa
open Go.RowKit Go.Maps

/-- what a call of Set leaves -/
structure TreeTo (w : World) (tb : Nat) (mo : Option Nat) (T : List (List UInt8 × LP)) (w' : World) : Prop where
  at_ : ∃ mo' L', TreeAt w' tb mo' L' ∧ Hid (plainL L' = T) ∧ ∀ m, mo' = some m → mo = some m ∨ w.heap.size ≤ m
  fr : Fr (fun g => g = tb ∨ mo = some g) w w'
theorem TreeTo.of {w w' : World} {tb : Nat} {mo : Option Nat} {L : List (List UInt8 × LV)} (h : TreeAt w tb mo L) (k : Below w.heap.size w w') : TreeTo w tb mo (plainL L) w' :=
  ⟨⟨mo, L, h.below k, rfl, fun _ e => .inl e⟩, Fr.of_below k _⟩
theorem plain_put (L : List (List UInt8 × LV)) (p : List UInt8) (o : LV) : plainL (putR L p o) = putR (plainL L) p o.p := (put_map LV.p L p o).symm
theorem plain_without (L : List (List UInt8 × LV)) (p : List UInt8) : plainL (withoutR L p) = withoutR (plainL L) p := (without_map LV.p L p).symm
theorem mapL_put (L : List (List UInt8 × LV)) (p : List UInt8) (o : LV) : mapL (putR L p o) = putR (mapL L) p o.v := (put_map LV.v L p o).symm
theorem mapL_without (L : List (List UInt8 × LV)) (p : List UInt8) : mapL (withoutR L p) = withoutR (mapL L) p := (without_map LV.v L p).symm
theorem map_eq_nil (w : World) (m : Option Nat) : (binOp .eql 72 (.map m) (.map none)).run Try.prog w = .ok (.bool m.isNone) w := run_eql_map_nil w _ _ _ m Try.underlying72
/-- bytes do not stand where a map's pointer stands -/
theorem By.not_map {w : World} {Z : Nat → Prop} {A : Option Addr} {l : List UInt8} {tb : Nat} {t : TypeId} {mo : Option Nat} (h : By w Z A l) (hb : Blk w tb t #[.map mo]) : By w (fun b => b ≠ tb) A l := by
  refine ⟨h.1, fun hn => ?_⟩
  obtain ⟨b, off, e, hz, hlt, hc⟩ := h.2 hn
  refine ⟨b, off, e, fun eb => ?_, hlt, hc⟩
  subst eb
  rcases l with _ | ⟨x, l⟩
  · simp at hn
  · have h1 := hc 0 (bv x) rfl
    rw [hb.cell] at h1
    rcases Nat.eq_zero_or_pos (off + 0) with h0 | h0
    · rw [h0] at h1; simp [bv] at h1
    · rw [Array.getElem?_eq_none (by simp; omega)] at h1; cases h1
/-- the map written -/
theorem TreeAt.stored {w w' : World} {tb mb : Nat} {L : List (List UInt8 × LV)} {p : List UInt8} {o : LV} (hb : Blk w tb 74 #[.map (some mb)]) (hm : MapAt w' Try.prog 9 mb (putR (mapL L) p o.v)) (hg : w.grownBy w' (some mb)) (hne : mb ≠ tb)
    {K : List (List UInt8 × Value)} (hm0 : MapAt w Try.prog 9 mb K) (hok : ∀ x ∈ L, OwB w 0 (.slice x.2.x.A x.2.x.l.length x.2.x.c) x.2.x.l) (ho : OwB w 0 (.slice o.x.A o.x.l.length o.x.c) o.x.l) (hpl : TreeOk (plainL (putR L p o))) : TreeAt w' tb (some mb) (putR L p o) := by
  have f : Fr (fun g => g = mb) w w' := Fr.of_grown hg (fun k _ e => by injection e with e; exact e.symm)
  refine ⟨hb.grown hg (by simpa using hne), .inr ⟨mb, rfl, by rw [mapL_put]; exact hm⟩, fun x hx => ?_, hpl⟩
  unfold putR at hx
  rcases mem_ins.1 hx with rfl | hx
  · exact own_fr ho f (fun g e1 e2 => TreeAt.own_map hm0 ho (by rw [e1, e2]))
  · exact own_fr (hok x (List.mem_filter.1 hx).1) f (fun g e1 e2 => TreeAt.own_map hm0 (hok x (List.mem_filter.1 hx).1) (by rw [e1, e2]))
theorem TreeAt.dropped {w w' : World} {tb mb : Nat} {L : List (List UInt8 × LV)} {p : List UInt8} (h : TreeAt w tb (some mb) L) (hm : MapAt w' Try.prog 9 mb (withoutR (mapL L) p)) (hg : w.grownBy w' (some mb)) (hpl : TreeOk (plainL (withoutR L p))) : TreeAt w' tb (some mb) (withoutR L p) := by
  have f : Fr (fun g => g = mb) w w' := Fr.of_grown hg (fun k _ e => by injection e with e; exact e.symm)
  refine ⟨h.blk.grown hg (fun e => h.ne e), .inr ⟨mb, rfl, by rw [mapL_without]; exact hm⟩, fun x hx => ?_, hpl⟩
  exact own_fr (h.own x (List.mem_filter.1 hx).1) f (fun g e1 e2 => h.ownT (h.own x (List.mem_filter.1 hx).1) (by decide) g e1 (.inr (by rw [e2])))


set_option maxRecDepth 100000 in
set_option maxHeartbeats 2000000 in
theorem treeSet_any (hS : SortsT) (tb : Nat) (mo : Option Nat) (L : List (List UInt8 × LV)) (p : List UInt8) (k : Int) (A : Option Addr) (c : Nat) (l : List UInt8) (Z : Nat → Prop) (w : World) (h : TreeAt w tb mo L) (hy : By w Z A l) (hp : p.length ≤ 1048576) (hn : l.length ≤ 140737488355328) :
    Calls Try.prog 30 #[.pointer (some ⟨tb, 0, none⟩), .string ⟨⟨p⟩⟩, .agg #[.int .i64 k, .slice A l.length c]] w fun e w' => e = .returned (.int .i64 (mayS (plainL L) p (k, l))) ∧ TreeTo w tb mo (setS (plainL L) p (k, l)) w' := by
  have HPL := Lib.hid (h.plain.set p (k, l))
  obtain ⟨M, hM⟩ : ∃ M, M = mayS (plainL L) p (k, l) := ⟨_, rfl⟩
  obtain ⟨T, hTT⟩ : ∃ T, T = setS (plainL L) p (k, l) := ⟨_, rfl⟩
  rw [← hM, ← hTT]
  rw [← hTT] at HPL
  have HM := Lib.hid hM
  have HTT : Hid (T = if M = 0 then doS (plainL L) p (k, l) else plainL L) := by show _ = _; rw [hTT, hM]; rfl
  clear hTT
  have HT := Lib.hid h
  have HY := Lib.hid hy
  have hb0 : Below w.heap.size w (w.alloc (.cells #[.int .i64 k, .slice A l.length c] 54)) := (by repeat (first | exact Below.refl _ _ | refine Below.alloc ?_ (by simp) _ | refine Below.setCell ?_ (by simp) _ | refine Below.drew ?_))
  have x0 := Blk.new w 54 #[.int .i64 k, .slice A l.length c]
  have q0 : (w.alloc (.cells #[.int .i64 k, .slice A l.length c] 54)).cell? ⟨w.heap.size, 0, none⟩ = some (.int .i64 k) := x0.cell 0
  have q1 : (w.alloc (.cells #[.int .i64 k, .slice A l.length c] 54)).cell? ⟨w.heap.size, 1, none⟩ = some (.slice A l.length c) := x0.cell 1
  have hpw : goodB p = false → Hid (M = 23) := fun e => by show _ = _; rw [HM.out]; unfold mayS; rw [if_pos e]
  clear h hy hM
  go_enter Try.func30, Try.ntmps30
  go_wp2_with fail
  clear q0 q1
  refine (treemay_any hS tb mo L p k A c l _ (HT.out.below hb0) hp hn).mono ?_
  rintro e w1 ⟨rfl, hb1⟩
  rw [← HM.out]
  have hw1 := hb0.trans (hb1.mono hb0.size)
  have x1 := x0.below hb1
  clear x0 hb0 hb1
  by_cases hM0 : M = 0
  · have hMb : (M != 0) = false := by simp [hM0]
    have hk : k = 0 ∨ k = 1 ∨ k = 2 := by
      have e := HM.out
      rw [hM0] at e
      unfold mayS at e
      split at e
      · simp at e
      · split at e
        · rename_i h2; exact absurd e.symm h2
        · rename_i h2
          exact checkN_kind (by simpa using h2)
    have hg : goodB p = true := by
      rcases hgg : goodB p with _ | _
      · have := (hpw hgg).out; omega
      · rfl
    have hp96 := goodB_len hg
    have HT2 : Hid (T = doS (plainL L) p (k, l)) := by show _ = _; rw [HTT.out, if_pos hM0]
    clear HTT HM hpw hg
    have q0 : w1.cell? ⟨w.heap.size, 0, none⟩ = some (.int .i64 k) := x1.cell 0
    have h1 := HT.out.below hw1
    have c0 := h1.c0
    by_cases hk0 : k = 0
    · have HT3 : Hid (T = withoutR (plainL L) p) := by show _ = _; rw [HT2.out]; unfold doS; rw [if_pos hk0]
      clear HT2 hk
      subst hk0
      rcases h1.map with ⟨rfl, rfl⟩ | ⟨mb, rfl, hm⟩
      · have hdr := fun ty => Maps.drop_nil (w := w1) str_keyed Try.underlying72 (Go.WideMaps.keyOf_string_mk Try.underlying9 (s := ⟨⟨p⟩⟩) (by show p.length ≤ _; simp only [maxLen]; omega)) ty
        subst hM0
        clear h1
        go_wp2_with fail
        go_ret
        refine ⟨rfl, ?_⟩
        rw [HT3.out]
        exact TreeTo.of HT.out hw1
      · obtain ⟨w2, hrun, hm2, hg2, _⟩ := hm.drop Try.underlying9 Try.underlying72 p (by simp only [maxLen]; omega) 0
        have HD := Lib.hid (h1.dropped hm2 hg2 (by rw [plain_without, ← HT3.out]; exact HPL.out))
        subst hM0
        clear h1 hm hm2
        go_wp2_with fail
        go_ret
        refine ⟨rfl, ⟨some mb, withoutR L p, HD.out, by show _ = _; rw [HT3.out, plain_without], fun m e => .inl e⟩, ?_⟩
        exact (Fr.of_below hw1 _).trans (Fr.of_grown hg2 (S := fun g => some mb = some g) (fun k _ e => e)) (fun x _ e => .inr e)
    · have HT3 : Hid (T = putR (plainL L) p (k, l)) := by show _ = _; rw [HT2.out]; unfold doS; rw [if_neg hk0]
      have hk0b : (k == 0) = false := by simpa using hk0
      clear HT2 hk hk0
      subst hM0
      rcases h1.map with ⟨rfl, rfl⟩ | ⟨mb, rfl, hm⟩
      · have hmm := @run_makeMap Try.prog
        have hmn := fun W m => map_eq_nil W m
        have f0 := h1.f0
        have hsz := hw1.size
        have htl := h1.blk.lt
        have htw := HT.out.blk.lt
        have b3 : Blk ((w1.setCell ⟨tb, 0, none⟩ (.map (some w1.heap.size))).alloc (.map #[] 0)) tb 74 #[.map (some w1.heap.size)] := by simpa using (h1.blk.set_ 0 (.map (some w1.heap.size))).alloc (.map #[] 0)
        have fS : Fr (fun g => g = tb) w1 ((w1.setCell ⟨tb, 0, none⟩ (.map (some w1.heap.size))).alloc (.map #[] 0)) := ((Fr.refl (fun g => g = tb) w1).setAt tb 0 rfl _).alloc _
        have hm3 : MapAt ((w1.setCell ⟨tb, 0, none⟩ (.map (some w1.heap.size))).alloc (.map #[] 0)) Try.prog 9 w1.heap.size (mapL []) := by have := MapAt.made (w1.setCell ⟨tb, 0, none⟩ (.map (some w1.heap.size))) Try.prog 9; rwa [show (w1.setCell ⟨tb, 0, none⟩ (.map (some w1.heap.size))).heap.size = w1.heap.size by simp [World.setCell]] at this
        have hx3 := x1.fr fS (by omega)
        have HY3 := Lib.hid (show By ((w1.setCell ⟨tb, 0, none⟩ (.map (some w1.heap.size))).alloc (.map #[] 0)) (fun _ => True) A l from (((HY.out.below hw1).not_map h1.blk).fr fS (fun b _ hz e => hz e)).mono (fun _ _ _ => trivial))
        have hfr3 := (Fr.of_below hw1 (fun g => g = tb ∨ (none : Option Nat) = some g)).trans fS (fun x _ e => .inl e)
        have hne3 : w1.heap.size ≠ tb := by omega
        have hbig : w.heap.size ≤ w1.heap.size := hsz
        have hok3 : ∀ x ∈ ([] : List (List UInt8 × LV)), OwB ((w1.setCell ⟨tb, 0, none⟩ (.map (some w1.heap.size))).alloc (.map #[] 0)) 0 (.slice x.2.x.A x.2.x.l.length x.2.x.c) x.2.x.l := by simp
        go_wp2_with fail
        clear q0 x1 f0 fS hmm c0
        generalize (w1.setCell ⟨tb, 0, none⟩ (.map (some w1.heap.size))).alloc (.map #[] 0) = w3 at *
        generalize hmbe : w1.heap.size = mb at *
        clear hmbe
        refine wp_region_m [true, true, true, true, true, true, false] (fun W => Below w3.heap.size w3 W) (by kernel_rfl) (by kernel_rfl) ?_
        simp only [List.length_cons, List.length_nil, Nat.zero_add, Nat.reduceAdd, List.take_succ_cons, List.take_zero, List.drop_succ_cons, List.drop_zero]
        refine mx_move _ (by kernel_rfl) rfl ⟨_, (by ((try simp [go_sem]); (try rfl); done)), _, (by (simp only [Act.put, List.setIfInBounds_toArray, List.set_cons_zero, List.set_cons_succ]; rfl)), ?_⟩
        refine mx_val (by kernel_rfl) ⟨_, (by (intro w' hC; clear hC; (try go_simp); (try with_reducible rfl); done)), _, (by (simp only [Act.put, List.setIfInBounds_toArray, List.set_cons_zero, List.set_cons_succ]; rfl)), ?_⟩
        refine mx_val (by kernel_rfl) ⟨_, (by (intro w' hC; clear hC; (try go_simp); (try with_reducible rfl); done)), _, (by (simp only [Act.put, List.setIfInBounds_toArray, List.set_cons_zero, List.set_cons_succ]; rfl)), ?_⟩
        refine mx_val (by kernel_rfl) ⟨_, (by (intro w' hC; (have q := (b3.below hC).cell 0; simp at q); clear hC; (try go_simp); (try with_reducible rfl); done)), _, (by (simp only [Act.put, List.setIfInBounds_toArray, List.set_cons_zero, List.set_cons_succ]; rfl)), ?_⟩
        refine mx_move _ (by kernel_rfl) rfl ⟨_, (by ((try simp [go_sem]); (try rfl); done)), _, (by (simp only [Act.put, List.setIfInBounds_toArray, List.set_cons_zero, List.set_cons_succ]; rfl)), ?_⟩
        refine mx_val (by kernel_rfl) ⟨_, (by (intro w' hC; (have q0 := (hx3.below hC).cell 0; have q1 := (hx3.below hC).cell 1; simp at q0 q1); clear hC; (try go_simp); (try with_reducible rfl); done)), _, (by (simp only [Act.put, List.setIfInBounds_toArray, List.set_cons_zero, List.set_cons_succ]; rfl)), ?_⟩
        refine mx_call ((Below.refl _ _).drew) (by kernel_rfl) ?_ (leafClone_any k A c l _ w3.drew (HY3.out.drew) hn) ?_
        · (go_simp; done)
        rintro e w4 ⟨A4, c4, l4, rfl, hl4, ho4, hb4⟩
        have hlow4 : Below w3.heap.size w3 w4 := (Below.refl _ _).drew.trans (hb4.mono (Nat.le_refl _))
        refine ⟨_, rfl, _, (by (simp only [Act.put, List.setIfInBounds_toArray, List.set_cons_zero, List.set_cons_succ]; rfl)), ?_⟩
        refine mx_end hlow4 ?_
        have b4 := b3.below hlow4
        have hml := HPL.out.len
        rw [HT3.out, show putR (plainL ([] : List (List UInt8 × LV))) p (k, l) = plainL (putR ([] : List (List UInt8 × LV)) p ⟨k, ⟨A4, c4, l4⟩⟩) by rw [plain_put]; show _ = putR (plainL ([] : List (List UInt8 × LV))) p (k, l4); rw [hl4.out]] at HPL
        have hlen3 : (mapL ([] : List (List UInt8 × LV))).length < maxLen := by
          have h5 := (HT.out.plain).len
          simp only [mapL, plainL, List.length_map] at h5 ⊢
          simp only [maxLen]
          omega
        obtain ⟨w5, hrun5, hm5, hg5, _⟩ := (hm3.below hlow4).store Try.underlying9 Try.underlying72 p (by simp only [maxLen]; omega) (.agg #[.int .i64 k, .slice A4 l4.length c4]) hlen3
        have hlt3 := hm3.lt
        have htb3 := b3.lt
        obtain ⟨A4', c4', e4, hlc4, hcm4, hA4⟩ := ho4.form
        obtain ⟨rfl, rfl⟩ : A4 = A4' ∧ c4 = c4' := by simpa using e4
        have hoo : OwB w4 0 (.slice A4 l4.length c4) l4 := own_base ho4 (fun _ _ => Nat.zero_le _)
        have HD := Lib.hid (TreeAt.stored (o := ⟨k, ⟨A4, c4, l4⟩⟩) b4 hm5 hg5 hne3 (hm3.below hlow4) (fun x hx => OwB.below (hok3 x hx) hlow4) hoo HPL.out)
        have HPP : Hid (plainL (putR ([] : List (List UInt8 × LV)) p ⟨k, ⟨A4, c4, l4⟩⟩) = T) := by show _ = _; rw [plain_put, HT3.out]; show putR (plainL ([] : List (List UInt8 × LV))) p (k, l4) = _; rw [hl4.out]
        have hfr5 := (hfr3.then_below hlow4)
        clear b4 hm5 hm3 hok3 hoo ho4 b3 hx3 HY3
        go_wp2_with fail
        go_ret
        refine ⟨rfl, ⟨some mb, _, HD.out, HPP, fun m e => by injection e with e; subst e; exact .inr hbig⟩, ?_⟩
        exact hfr5.trans (Fr.of_grown hg5 (S := fun g => some mb = some g) (fun k _ e => e)) (fun x hx e => by injection e with e; omega)
      · have b3 := h1.blk
        have hmn := fun W m => map_eq_nil W m
        have hne3 : mb ≠ tb := fun e => h1.ne (by rw [e])
        have hok3 := h1.own
        have hm3 := hm
        have hfr3 := Fr.of_below hw1 (fun g => g = tb ∨ (some mb : Option Nat) = some g)
        have hx3 := x1
        have HY3 := Lib.hid (show By w1 (fun _ => True) A l from (HY.out.below hw1).mono (fun _ _ _ => trivial))
        go_wp2_with fail
        clear q0 x1 c0 hm
        obtain ⟨w3, rfl⟩ : ∃ x : World, x = w1 := ⟨_, rfl⟩
        refine wp_region_m [true, true, true, true, true, true, false] (fun W => Below w3.heap.size w3 W) (by kernel_rfl) (by kernel_rfl) ?_
        simp only [List.length_cons, List.length_nil, Nat.zero_add, Nat.reduceAdd, List.take_succ_cons, List.take_zero, List.drop_succ_cons, List.drop_zero]
        refine mx_move _ (by kernel_rfl) rfl ⟨_, (by ((try simp [go_sem]); (try rfl); done)), _, (by (simp only [Act.put, List.setIfInBounds_toArray, List.set_cons_zero, List.set_cons_succ]; rfl)), ?_⟩
        refine mx_val (by kernel_rfl) ⟨_, (by (intro w' hC; clear hC; (try go_simp); (try with_reducible rfl); done)), _, (by (simp only [Act.put, List.setIfInBounds_toArray, List.set_cons_zero, List.set_cons_succ]; rfl)), ?_⟩
        refine mx_val (by kernel_rfl) ⟨_, (by (intro w' hC; clear hC; (try go_simp); (try with_reducible rfl); done)), _, (by (simp only [Act.put, List.setIfInBounds_toArray, List.set_cons_zero, List.set_cons_succ]; rfl)), ?_⟩
        refine mx_val (by kernel_rfl) ⟨_, (by (intro w' hC; (have q := (b3.below hC).cell 0; simp at q); clear hC; (try go_simp); (try with_reducible rfl); done)), _, (by (simp only [Act.put, List.setIfInBounds_toArray, List.set_cons_zero, List.set_cons_succ]; rfl)), ?_⟩
        refine mx_move _ (by kernel_rfl) rfl ⟨_, (by ((try simp [go_sem]); (try rfl); done)), _, (by (simp only [Act.put, List.setIfInBounds_toArray, List.set_cons_zero, List.set_cons_succ]; rfl)), ?_⟩
        refine mx_val (by kernel_rfl) ⟨_, (by (intro w' hC; (have q0 := (hx3.below hC).cell 0; have q1 := (hx3.below hC).cell 1; simp at q0 q1); clear hC; (try go_simp); (try with_reducible rfl); done)), _, (by (simp only [Act.put, List.setIfInBounds_toArray, List.set_cons_zero, List.set_cons_succ]; rfl)), ?_⟩
        refine mx_call ((Below.refl _ _).drew) (by kernel_rfl) ?_ (leafClone_any k A c l _ w3.drew (HY3.out.drew) hn) ?_
        · (go_simp; done)
        rintro e w4 ⟨A4, c4, l4, rfl, hl4, ho4, hb4⟩
        have hlow4 : Below w3.heap.size w3 w4 := (Below.refl _ _).drew.trans (hb4.mono (Nat.le_refl _))
        refine ⟨_, rfl, _, (by (simp only [Act.put, List.setIfInBounds_toArray, List.set_cons_zero, List.set_cons_succ]; rfl)), ?_⟩
        refine mx_end hlow4 ?_
        have b4 := b3.below hlow4
        have hml := HPL.out.len
        rw [HT3.out, show putR (plainL L) p (k, l) = plainL (putR L p ⟨k, ⟨A4, c4, l4⟩⟩) by rw [plain_put]; show _ = putR (plainL L) p (k, l4); rw [hl4.out]] at HPL
        have hlen3 : (mapL L).length < maxLen := by
          have h5 := (HT.out.plain).len
          simp only [mapL, plainL, List.length_map] at h5 ⊢
          simp only [maxLen]
          omega
        obtain ⟨w5, hrun5, hm5, hg5, _⟩ := (hm3.below hlow4).store Try.underlying9 Try.underlying72 p (by simp only [maxLen]; omega) (.agg #[.int .i64 k, .slice A4 l4.length c4]) hlen3
        have hlt3 := hm3.lt
        have htb3 := b3.lt
        obtain ⟨A4', c4', e4, hlc4, hcm4, hA4⟩ := ho4.form
        obtain ⟨rfl, rfl⟩ : A4 = A4' ∧ c4 = c4' := by simpa using e4
        have hoo : OwB w4 0 (.slice A4 l4.length c4) l4 := own_base ho4 (fun _ _ => Nat.zero_le _)
        have HD := Lib.hid (TreeAt.stored (o := ⟨k, ⟨A4, c4, l4⟩⟩) b4 hm5 hg5 hne3 (hm3.below hlow4) (fun x hx => OwB.below (hok3 x hx) hlow4) hoo HPL.out)
        have HPP : Hid (plainL (putR L p ⟨k, ⟨A4, c4, l4⟩⟩) = T) := by show _ = _; rw [plain_put, HT3.out]; show putR (plainL L) p (k, l4) = _; rw [hl4.out]
        have hfr5 := (hfr3.then_below hlow4)
        clear b4 hm5 hm3 hok3 hoo ho4 b3 hx3 HY3
        go_wp2_with fail
        go_ret
        refine ⟨rfl, ⟨some mb, _, HD.out, HPP, fun m e => by injection e with e; subst e; exact .inl rfl⟩, ?_⟩
        exact hfr5.trans (Fr.of_grown hg5 (S := fun g => some mb = some g) (fun k _ e => e)) (fun x hx e => by exact .inr e)
  · have hMb : (M != 0) = true := by simpa using hM0
    obtain rfl : T = plainL L := by rw [HTT.out, if_neg hM0]
    clear hM0 HM hpw
    go_wp2_with fail
    go_ret
    exact ⟨rfl, TreeTo.of HT.out hw1⟩

end Go.Proofs.Ytkeledbgmpienaa

/- tenderref08: Same. -/
namespace Go.Proofs.Ytkeledbgmpienaa
open Go.RowKit

theorem plain_snoc (L : List (List UInt8 × LV)) (i : Nat) (hi : i < L.length) : plainL (L.take (i + 1)) = plainL (L.take i) ++ [(L[i].1, L[i].2.p)] := by
  unfold plainL
  rw [List.take_succ_eq_append_getElem hi, List.map_append]
  rfl
theorem plain_get (L : List (List UInt8 × LV)) (i : Nat) (hi : i < L.length) : (plainL L)[i]? = some (L[i].1, L[i].2.p) := by
  unfold plainL
  rw [List.getElem?_map, List.getElem?_eq_getElem hi]
  rfl
theorem plain_len (L : List (List UInt8 × LV)) : (plainL L).length = L.length := by simp [plainL]

set_option maxRecDepth 100000 in
set_option maxHeartbeats 1000000 in
theorem refSame08_any (A B : Option Addr) (c d : Nat) (L M : List (List UInt8 × LV)) (w : World) (h : Its w A L) (h' : Its w B M) :
    Calls Try.prog 16 #[.slice A L.length c, .slice B M.length d] w fun e w' => e = .returned (.bool (decide (plainL L = plainL M))) ∧ Below w.heap.size w w' := by
  obtain ⟨R, hR⟩ : ∃ R, R = decide (plainL L = plainL M) := ⟨_, rfl⟩
  rw [← hR]
  have HR := Lib.hid hR
  have HL := Lib.hid h
  have HM := Lib.hid h'
  have hlen := h.len
  clear h h' hR
  by_cases hn : L.length = M.length
  · have HN := Lib.hid hn
    have hlm := HM.out.len
    go_enter Try.func16, Try.ntmps16
    go_wp2_with fail
    go_loopw [5] (fun iv wr => ∃ i : Nat, i ≤ L.length ∧ iv = .int .i64 (i : Int) ∧ Hid (plainL (L.take i) = plainL (M.take i)) ∧ Below w.heap.size w wr) (fun iv _ => L.length - (intOf iv).toNat)
    case atStart => exact ⟨0, Nat.zero_le _, rfl, rfl, Below.refl _ _⟩
    case round =>
      obtain ⟨i, hi, rfl, hz, hb⟩ := hrel
      by_cases hlt : i < L.length
      · have hltm : i < M.length := by omega
        obtain ⟨b, off, hA, hb1, c0, c1, c2⟩ := (HL.out.below hb).at_ hlt
        obtain ⟨b2, off2, hB, hb2, d0, d1, d2⟩ := (HM.out.below hb).at_ hltm
        subst hA
        subst hB
        have hx2 := Lib.hid ((HL.out.below hb).ok _ (List.getElem_mem hlt))
        have hy2 := Lib.hid ((HM.out.below hb).ok _ (List.getElem_mem hltm))
        have hs1 := Lib.hid (plain_snoc L i hlt)
        have hs2 := Lib.hid (plain_snoc M i hltm)
        have hg1 := Lib.hid (plain_get L i hlt)
        have hg2 := Lib.hid (plain_get M i hltm)
        generalize L[i] = x at *
        generalize M[i] = y at *
        simp only [stv] at c0 d0
        have hq := Lib.hid hb
        by_cases hxy : x.1 = y.1
        · rw [hxy] at c0
          go_wp2_with fail
          refine wp_region_m [true, true, true, true, true, true, true, true, true, true, true, true, true, true, true, true, true, true, true, true, true, true, false, true, true] (fun W => Below wr.heap.size wr W) (by kernel_rfl) (by kernel_rfl) ?_
          simp only [List.length_cons, List.length_nil, Nat.zero_add, Nat.reduceAdd, List.take_succ_cons, List.take_zero, List.drop_succ_cons, List.drop_zero]
          refine mx_move _ (by kernel_rfl) rfl ⟨_, (by ((try simp [go_sem]); (try rfl); done)), _, (by (simp only [Act.put, List.setIfInBounds_toArray, List.set_cons_zero, List.set_cons_succ]; rfl)), ?_⟩
          refine mx_move _ (by kernel_rfl) rfl ⟨_, (by ((try simp [go_sem]); (try rfl); done)), _, (by (simp only [Act.put, List.setIfInBounds_toArray, List.set_cons_zero, List.set_cons_succ]; rfl)), ?_⟩
          refine mx_val (by kernel_rfl) ⟨_, (by (intro w' hC; clear hC; (try go_simp); (try with_reducible rfl); done)), _, (by (simp only [Act.put, List.setIfInBounds_toArray, List.set_cons_zero, List.set_cons_succ]; rfl)), ?_⟩
          refine mx_val (by kernel_rfl) ⟨_, (by (intro w' hC; clear hC; (try go_simp); (try with_reducible rfl); done)), _, (by (simp only [Act.put, List.setIfInBounds_toArray, List.set_cons_zero, List.set_cons_succ]; rfl)), ?_⟩
          refine mx_val (by kernel_rfl) ⟨_, (by (intro w' hC; (have q := cellAt hC hb1 c0); clear hC; (try go_simp); (try with_reducible rfl); done)), _, (by (simp only [Act.put, List.setIfInBounds_toArray, List.set_cons_zero, List.set_cons_succ]; rfl)), ?_⟩
          refine mx_move _ (by kernel_rfl) rfl ⟨_, (by ((try simp [go_sem]); (try rfl); done)), _, (by (simp only [Act.put, List.setIfInBounds_toArray, List.set_cons_zero, List.set_cons_succ]; rfl)), ?_⟩
          refine mx_move _ (by kernel_rfl) rfl ⟨_, (by ((try simp [go_sem]); (try rfl); done)), _, (by (simp only [Act.put, List.setIfInBounds_toArray, List.set_cons_zero, List.set_cons_succ]; rfl)), ?_⟩
          refine mx_val (by kernel_rfl) ⟨_, (by (intro w' hC; clear hC; (try go_simp); (try with_reducible rfl); done)), _, (by (simp only [Act.put, List.setIfInBounds_toArray, List.set_cons_zero, List.set_cons_succ]; rfl)), ?_⟩
          refine mx_val (by kernel_rfl) ⟨_, (by (intro w' hC; clear hC; (try go_simp); (try with_reducible rfl); done)), _, (by (simp only [Act.put, List.setIfInBounds_toArray, List.set_cons_zero, List.set_cons_succ]; rfl)), ?_⟩
          refine mx_val (by kernel_rfl) ⟨_, (by (intro w' hC; (have q := cellAt hC hb2 d0); clear hC; (try go_simp); (try with_reducible rfl); done)), _, (by (simp only [Act.put, List.setIfInBounds_toArray, List.set_cons_zero, List.set_cons_succ]; rfl)), ?_⟩
          refine mx_val (by kernel_rfl) ⟨_, (by (intro w' hC; clear hC; (try go_simp); (try with_reducible rfl); done)), _, (by (simp only [Act.put, List.setIfInBounds_toArray, List.set_cons_zero, List.set_cons_succ]; rfl)), ?_⟩
          refine mx_move _ (by kernel_rfl) rfl ⟨_, (by ((try simp [go_sem]); (try rfl); done)), _, (by (simp only [Act.put, List.setIfInBounds_toArray, List.set_cons_zero, List.set_cons_succ]; rfl)), ?_⟩
          refine mx_move _ (by kernel_rfl) rfl ⟨_, (by ((try simp [go_sem]); (try rfl); done)), _, (by (simp only [Act.put, List.setIfInBounds_toArray, List.set_cons_zero, List.set_cons_succ]; rfl)), ?_⟩
          refine mx_move _ (by kernel_rfl) rfl ⟨_, (by ((try simp [go_sem]); (try rfl); done)), _, (by (simp only [Act.put, List.setIfInBounds_toArray, List.set_cons_zero, List.set_cons_succ]; rfl)), ?_⟩
          refine mx_val (by kernel_rfl) ⟨_, (by (intro w' hC; clear hC; (try go_simp); (try with_reducible rfl); done)), _, (by (simp only [Act.put, List.setIfInBounds_toArray, List.set_cons_zero, List.set_cons_succ]; rfl)), ?_⟩
          refine mx_val (by kernel_rfl) ⟨_, (by (intro w' hC; clear hC; (try go_simp); (try with_reducible rfl); done)), _, (by (simp only [Act.put, List.setIfInBounds_toArray, List.set_cons_zero, List.set_cons_succ]; rfl)), ?_⟩
          refine mx_val (by kernel_rfl) ⟨_, (by (intro w' hC; (have q0 := cellAt hC hb1 c1; have q1 := cellAt hC hb1 c2; rw [show off + i * 3 + 2 = off + i * 3 + 1 + 1 from rfl] at q1); clear hC; (try go_simp); (try with_reducible rfl); done)), _, (by (simp only [Act.put, List.setIfInBounds_toArray, List.set_cons_zero, List.set_cons_succ]; rfl)), ?_⟩
          refine mx_move _ (by kernel_rfl) rfl ⟨_, (by ((try simp [go_sem]); (try rfl); done)), _, (by (simp only [Act.put, List.setIfInBounds_toArray, List.set_cons_zero, List.set_cons_succ]; rfl)), ?_⟩
          refine mx_move _ (by kernel_rfl) rfl ⟨_, (by ((try simp [go_sem]); (try rfl); done)), _, (by (simp only [Act.put, List.setIfInBounds_toArray, List.set_cons_zero, List.set_cons_succ]; rfl)), ?_⟩
          refine mx_val (by kernel_rfl) ⟨_, (by (intro w' hC; clear hC; (try go_simp); (try with_reducible rfl); done)), _, (by (simp only [Act.put, List.setIfInBounds_toArray, List.set_cons_zero, List.set_cons_succ]; rfl)), ?_⟩
          refine mx_val (by kernel_rfl) ⟨_, (by (intro w' hC; clear hC; (try go_simp); (try with_reducible rfl); done)), _, (by (simp only [Act.put, List.setIfInBounds_toArray, List.set_cons_zero, List.set_cons_succ]; rfl)), ?_⟩
          refine mx_val (by kernel_rfl) ⟨_, (by (intro w' hC; (have q0 := cellAt hC hb2 d1; have q1 := cellAt hC hb2 d2; rw [show off2 + i * 3 + 2 = off2 + i * 3 + 1 + 1 from rfl] at q1); clear hC; (try go_simp); (try with_reducible rfl); done)), _, (by (simp only [Act.put, List.setIfInBounds_toArray, List.set_cons_zero, List.set_cons_succ]; rfl)), ?_⟩
          refine mx_call ((Below.refl _ _).drew) (by kernel_rfl) ?_ (leafSameR_any x.2.k y.2.k x.2.x.A y.2.x.A x.2.x.c y.2.x.c x.2.x.l y.2.x.l _ _ wr.drew hx2.out.1.drew hy2.out.1.drew) ?_
          · (go_simp; done)
          rintro e w2 ⟨rfl, hb3⟩
          generalize hsm : (x.2.k == y.2.k && x.2.x.l == y.2.x.l) = sm
          have hlow : Below wr.heap.size wr w2 := (Below.refl _ _).drew.trans (hb3.mono (Nat.le_refl _))
          refine ⟨_, rfl, _, (by (simp only [Act.put, List.setIfInBounds_toArray, List.set_cons_zero, List.set_cons_succ]; rfl)), ?_⟩
          refine mx_val (by kernel_rfl) ⟨_, (by (intro w' hC; clear hC; (try go_simp); (try with_reducible rfl); done)), _, (by (simp only [Act.put, List.setIfInBounds_toArray, List.set_cons_zero, List.set_cons_succ]; rfl)), ?_⟩
          refine mx_val (by kernel_rfl) ⟨_, (by (intro w' hC; clear hC; (try go_simp); (try with_reducible rfl); done)), _, (by (simp only [Act.put, List.setIfInBounds_toArray, List.set_cons_zero, List.set_cons_succ]; rfl)), ?_⟩
          refine mx_end hlow ?_
          have hw2 := hb.trans (hlow.mono hb.size)
          cases sm
          · obtain rfl : R = false := by
              rw [HR.out, decide_eq_false_iff_not]
              intro e
              have e2 := hg1.out
              rw [e, hg2.out] at e2
              injection e2 with e2
              injection e2 with _ e2
              rw [show x.2.k = y.2.k from (congrArg Prod.fst e2).symm, show x.2.x.l = y.2.x.l from (congrArg Prod.snd e2).symm] at hsm
              simp at hsm
            clear c0 c1 c2 d0 d1 d2
            go_wp2_with fail
            go_ret
            exact ⟨rfl, hw2⟩
          · have HN2 : Hid (plainL (L.take (i + 1)) = plainL (M.take (i + 1))) := by
              show _ = _
              simp only [Bool.and_eq_true, beq_iff_eq] at hsm
              rw [hs1.out, hs2.out, hz.out, hxy]
              unfold LV.p
              rw [hsm.1, hsm.2]
            clear c0 c1 c2 d0 d1 d2
            go_wp2_with fail
            go_roundw
            case rel => exact ⟨i + 1, hlt, by go_num, HN2, hw2⟩
            case measure => simp [intOf]; omega
        · have hne : (x.1 != y.1) = true := by simpa using hxy
          have hne1 : (x.1 == y.1) = false := by simpa using hxy
          obtain rfl : R = false := by
            rw [HR.out, decide_eq_false_iff_not]
            intro e
            have e2 := hg1.out
            rw [e, hg2.out] at e2
            injection e2 with e2
            injection e2 with e2 _
            exact hxy e2.symm
          go_wp2_with fail
          refine wp_region_m [true, true, true, true, true, true, true, true, true, true, true, true, true, true, true, true, true, true, true, true, true, true, false, true, true] (fun W => Below wr.heap.size wr W) (by kernel_rfl) (by kernel_rfl) ?_
          simp only [List.length_cons, List.length_nil, Nat.zero_add, Nat.reduceAdd, List.take_succ_cons, List.take_zero, List.drop_succ_cons, List.drop_zero]
          refine mx_move _ (by kernel_rfl) rfl ⟨_, (by ((try simp [go_sem]); (try rfl); done)), _, (by (simp only [Act.put, List.setIfInBounds_toArray, List.set_cons_zero, List.set_cons_succ]; rfl)), ?_⟩
          refine mx_move _ (by kernel_rfl) rfl ⟨_, (by ((try simp [go_sem]); (try rfl); done)), _, (by (simp only [Act.put, List.setIfInBounds_toArray, List.set_cons_zero, List.set_cons_succ]; rfl)), ?_⟩
          refine mx_val (by kernel_rfl) ⟨_, (by (intro w' hC; clear hC; (try go_simp); (try with_reducible rfl); done)), _, (by (simp only [Act.put, List.setIfInBounds_toArray, List.set_cons_zero, List.set_cons_succ]; rfl)), ?_⟩
          refine mx_val (by kernel_rfl) ⟨_, (by (intro w' hC; clear hC; (try go_simp); (try with_reducible rfl); done)), _, (by (simp only [Act.put, List.setIfInBounds_toArray, List.set_cons_zero, List.set_cons_succ]; rfl)), ?_⟩
          refine mx_val (by kernel_rfl) ⟨_, (by (intro w' hC; (have q := cellAt hC hb1 c0); clear hC; (try go_simp); (try with_reducible rfl); done)), _, (by (simp only [Act.put, List.setIfInBounds_toArray, List.set_cons_zero, List.set_cons_succ]; rfl)), ?_⟩
          refine mx_move _ (by kernel_rfl) rfl ⟨_, (by ((try simp [go_sem]); (try rfl); done)), _, (by (simp only [Act.put, List.setIfInBounds_toArray, List.set_cons_zero, List.set_cons_succ]; rfl)), ?_⟩
          refine mx_move _ (by kernel_rfl) rfl ⟨_, (by ((try simp [go_sem]); (try rfl); done)), _, (by (simp only [Act.put, List.setIfInBounds_toArray, List.set_cons_zero, List.set_cons_succ]; rfl)), ?_⟩
          refine mx_val (by kernel_rfl) ⟨_, (by (intro w' hC; clear hC; (try go_simp); (try with_reducible rfl); done)), _, (by (simp only [Act.put, List.setIfInBounds_toArray, List.set_cons_zero, List.set_cons_succ]; rfl)), ?_⟩
          refine mx_val (by kernel_rfl) ⟨_, (by (intro w' hC; clear hC; (try go_simp); (try with_reducible rfl); done)), _, (by (simp only [Act.put, List.setIfInBounds_toArray, List.set_cons_zero, List.set_cons_succ]; rfl)), ?_⟩
          refine mx_val (by kernel_rfl) ⟨_, (by (intro w' hC; (have q := cellAt hC hb2 d0); clear hC; (try go_simp); (try with_reducible rfl); done)), _, (by (simp only [Act.put, List.setIfInBounds_toArray, List.set_cons_zero, List.set_cons_succ]; rfl)), ?_⟩
          refine mx_val (by kernel_rfl) ⟨_, (by (intro w' hC; (have q := hne); clear hC; (try go_simp); (try with_reducible rfl); done)), _, (by (simp only [Act.put, List.setIfInBounds_toArray, List.set_cons_zero, List.set_cons_succ]; rfl)), ?_⟩
          refine mx_move _ (by kernel_rfl) rfl ⟨_, (by ((try simp [go_sem]); (try rfl); done)), _, (by (simp only [Act.put, List.setIfInBounds_toArray, List.set_cons_zero, List.set_cons_succ]; rfl)), ?_⟩
          first | (refine mx_skip (by rfl) ⟨_, (by (simp only [Act.put, List.setIfInBounds_toArray, List.set_cons_zero, List.set_cons_succ]; rfl)), ?_⟩) | (refine mx_move _ (by kernel_rfl) rfl ⟨_, (by ((try simp [go_sem]); (try rfl); done)), _, (by (simp only [Act.put, List.setIfInBounds_toArray, List.set_cons_zero, List.set_cons_succ]; rfl)), ?_⟩)
          first | (refine mx_skip (by rfl) ⟨_, (by (simp only [Act.put, List.setIfInBounds_toArray, List.set_cons_zero, List.set_cons_succ]; rfl)), ?_⟩) | (refine mx_move _ (by kernel_rfl) rfl ⟨_, (by ((try simp [go_sem]); (try rfl); done)), _, (by (simp only [Act.put, List.setIfInBounds_toArray, List.set_cons_zero, List.set_cons_succ]; rfl)), ?_⟩)
          first | (refine mx_skip (by rfl) ⟨_, (by (simp only [Act.put, List.setIfInBounds_toArray, List.set_cons_zero, List.set_cons_succ]; rfl)), ?_⟩) | (refine mx_val (by kernel_rfl) ⟨_, (by (intro w' hC; clear hC; (try go_simp); (try with_reducible rfl); done)), _, (by (simp only [Act.put, List.setIfInBounds_toArray, List.set_cons_zero, List.set_cons_succ]; rfl)), ?_⟩)
          first | (refine mx_skip (by rfl) ⟨_, (by (simp only [Act.put, List.setIfInBounds_toArray, List.set_cons_zero, List.set_cons_succ]; rfl)), ?_⟩) | (refine mx_val (by kernel_rfl) ⟨_, (by (intro w' hC; clear hC; (try go_simp); (try with_reducible rfl); done)), _, (by (simp only [Act.put, List.setIfInBounds_toArray, List.set_cons_zero, List.set_cons_succ]; rfl)), ?_⟩)
          first | (refine mx_skip (by rfl) ⟨_, (by (simp only [Act.put, List.setIfInBounds_toArray, List.set_cons_zero, List.set_cons_succ]; rfl)), ?_⟩) | (refine mx_val (by kernel_rfl) ⟨_, (by (intro w' hC; skip; clear hC; (try go_simp); (try with_reducible rfl); done)), _, (by (simp only [Act.put, List.setIfInBounds_toArray, List.set_cons_zero, List.set_cons_succ]; rfl)), ?_⟩)
          first | (refine mx_skip (by rfl) ⟨_, (by (simp only [Act.put, List.setIfInBounds_toArray, List.set_cons_zero, List.set_cons_succ]; rfl)), ?_⟩) | (refine mx_move _ (by kernel_rfl) rfl ⟨_, (by ((try simp [go_sem]); (try rfl); done)), _, (by (simp only [Act.put, List.setIfInBounds_toArray, List.set_cons_zero, List.set_cons_succ]; rfl)), ?_⟩)
          first | (refine mx_skip (by rfl) ⟨_, (by (simp only [Act.put, List.setIfInBounds_toArray, List.set_cons_zero, List.set_cons_succ]; rfl)), ?_⟩) | (refine mx_move _ (by kernel_rfl) rfl ⟨_, (by ((try simp [go_sem]); (try rfl); done)), _, (by (simp only [Act.put, List.setIfInBounds_toArray, List.set_cons_zero, List.set_cons_succ]; rfl)), ?_⟩)
          first | (refine mx_skip (by rfl) ⟨_, (by (simp only [Act.put, List.setIfInBounds_toArray, List.set_cons_zero, List.set_cons_succ]; rfl)), ?_⟩) | (refine mx_val (by kernel_rfl) ⟨_, (by (intro w' hC; clear hC; (try go_simp); (try with_reducible rfl); done)), _, (by (simp only [Act.put, List.setIfInBounds_toArray, List.set_cons_zero, List.set_cons_succ]; rfl)), ?_⟩)
          first | (refine mx_skip (by rfl) ⟨_, (by (simp only [Act.put, List.setIfInBounds_toArray, List.set_cons_zero, List.set_cons_succ]; rfl)), ?_⟩) | (refine mx_val (by kernel_rfl) ⟨_, (by (intro w' hC; clear hC; (try go_simp); (try with_reducible rfl); done)), _, (by (simp only [Act.put, List.setIfInBounds_toArray, List.set_cons_zero, List.set_cons_succ]; rfl)), ?_⟩)
          first | (refine mx_skip (by rfl) ⟨_, (by (simp only [Act.put, List.setIfInBounds_toArray, List.set_cons_zero, List.set_cons_succ]; rfl)), ?_⟩) | (refine mx_val (by kernel_rfl) ⟨_, (by (intro w' hC; skip; clear hC; (try go_simp); (try with_reducible rfl); done)), _, (by (simp only [Act.put, List.setIfInBounds_toArray, List.set_cons_zero, List.set_cons_succ]; rfl)), ?_⟩)
          first | (refine mx_idle ((Below.refl _ _).drew) (by rfl) ⟨_, (by (simp only [Act.put, List.setIfInBounds_toArray, List.set_cons_zero, List.set_cons_succ]; rfl)), ?_⟩) | (refine mx_alone ((Below.refl _ _).drew) (by kernel_rfl) ⟨_, _, (by (go_simp; first | done | exact ⟨rfl, rfl⟩)), _, (by (simp only [Act.put, List.setIfInBounds_toArray, List.set_cons_zero, List.set_cons_succ]; rfl)), ?_⟩)
          first | (refine mx_skip (by rfl) ⟨_, (by (simp only [Act.put, List.setIfInBounds_toArray, List.set_cons_zero, List.set_cons_succ]; rfl)), ?_⟩) | (refine mx_val (by kernel_rfl) ⟨_, (by (intro w' hC; clear hC; (try go_simp); (try with_reducible rfl); done)), _, (by (simp only [Act.put, List.setIfInBounds_toArray, List.set_cons_zero, List.set_cons_succ]; rfl)), ?_⟩)
          refine mx_val (by kernel_rfl) ⟨_, (by (intro w' hC; clear hC; (try go_simp); (try with_reducible rfl); done)), _, (by (simp only [Act.put, List.setIfInBounds_toArray, List.set_cons_zero, List.set_cons_succ]; rfl)), ?_⟩
          refine mx_end (Below.refl _ _).drew ?_
          clear c0 c1 c2 d0 d1 d2
          go_wp2_with fail
          go_ret
          exact ⟨rfl, hb.drew⟩
      · have e : i = L.length := by omega
        subst e
        obtain rfl : R = true := by
          rw [HR.out, decide_eq_true_eq]
          have := hz.out
          rw [List.take_length, HN.out, List.take_length] at this
          exact this
        clear hz
        go_wp2_with fail
        go_ret
        exact ⟨rfl, hb⟩
  · obtain rfl : R = false := by
      rw [HR.out, decide_eq_false_iff_not]
      intro e
      have := congrArg List.length e
      rw [plain_len, plain_len] at this
      exact hn this
    have hne : ((L.length : Int) != (M.length : Int)) = true := by simp; omega
    have hlm := HM.out.len
    go_enter Try.func16, Try.ntmps16
    go_wp2_with fail
    go_ret
    exact ⟨rfl, Below.refl _ _⟩
end Go.Proofs.Ytkeledbgmpienaa

/- A region in the text's order whose operations each yield ONE value and at most make memory (ClassF's steps without a drawn order). No program. -/
namespace Go.Proofs.Ytkeledbgmpienaa
open Go.RowKit

section
variable {P : Program} {ops : Array Oper} {W : World} {Q : Exit → Act → World → Prop} {Lq : Act → Prop}
theorem wpList_walk : ∀ (l : List Oper) (a : Act) (w : World), WalkB P ops W Lq l a → Below W.heap.size W w → (∀ a' w', Lq a' → Below W.heap.size W w' → Q .normal a' w') → wpList P ops Q l a w
  | [], a, w, h, hw, hQ => by
    cases h with
    | nil h => exact hQ _ _ h hw
  | o :: l, a, w, h, hw, hQ => by
    cases h with
    | cons hy hd =>
      rcases hy with ⟨hwt, hv⟩ | ⟨hwt, rfl⟩
      · simp only [wpList, hwt, if_true]
        refine .inl ?_
        unfold Oper.wp
        rcases hv w hw with e | ⟨f, args, e, hc⟩
        · rw [e]
          exact wpList_walk l _ w hd hw hQ
        · rw [e]
          exact hc.mono fun e w' ⟨he, hb⟩ => by
            subst he
            exact wpList_walk l _ w' hd (hw.trans (hb.mono hw.size)) hQ
      · exact wpList_skip hwt (wpList_walk l _ w hd hw hQ)
theorem wpList_seq {l : List Oper} {a : Act} {w : World} (h : WalkB P ops w (fun a' => ∀ w', Below w.heap.size w w' → Q .normal a' w') l a) : wpList P ops Q l a w :=
  wpList_walk l a w h (Below.refl _ _) (fun _ _ h hb => h _ hb)
end
end Go.Proofs.Ytkeledbgmpienaa

/- tenderref08: Diff. -/
namespace Go.Proofs.Ytkeledbgmpienaa
open Go.RowKit

def dirV : LV := ⟨2, ⟨none, 0, []⟩⟩
/-- all of some paths, in order, each once -/
def unionR (ps : List (List UInt8)) : List (List UInt8 × LV) := ps.foldl (fun T p => putR T p dirV) []
theorem union_snoc (ps : List (List UInt8)) (p : List UInt8) : unionR (ps ++ [p]) = putR (unionR ps) p dirV := by simp [unionR]
theorem put_len_le {α : Type} (L : List (List UInt8 × α)) (p : List UInt8) (v : α) : (putR L p v).length ≤ L.length + 1 := by
  unfold putR
  rw [ins_len]
  have := without_len_le L p
  omega
theorem union_len (ps : List (List UInt8)) (n : Nat) (h : ps.length = n) : (unionR ps).length ≤ n + 0 := by
  subst h
  have : ∀ (qs : List (List UInt8)) (T : List (List UInt8 × LV)), (qs.foldl (fun T p => putR T p dirV) T).length ≤ T.length + qs.length := by
    intro qs
    induction qs with
    | nil => intro T; simp
    | cons q qs ih =>
      intro T
      have := ih (putR T q dirV)
      have h2 := put_len_le T q dirV
      simp only [List.foldl_cons, List.length_cons]
      omega
  have := this ps []
  simpa [unionR] using this
/-- what stands there, or nothing -/
def at0 (T : List (List UInt8 × LP)) (p : List UInt8) : LP := (getR T p).getD (0, [])
def diffB (S T : List (List UInt8 × LP)) (p : List UInt8) : Bool := !(at0 S p == at0 T p)
/-- the paths at which they are not the same -/
def diffS (S T : List (List UInt8 × LP)) : List (List UInt8) := (keysR (unionR (keysR S ++ keysR T))).filter (diffB S T)
theorem leafO_by {w : World} {A : Option Addr} {L : List (List UInt8 × LV)} (h : Its w A L) (p : List UInt8) : ∃ (k : Int) (A' : Option Addr) (c : Nat) (l : List UInt8), leafO (getR L p) = .agg #[.int .i64 k, .slice A' l.length c] ∧ By w (fun _ => True) A' l ∧ Hid (at0 (plainL L) p = (k, l)) := by
  unfold at0
  rw [get_plain]
  rcases hg : getR L p with _ | ⟨k, A', c, l⟩
  · exact ⟨0, none, 0, [], rfl, Rd.nil, rfl⟩
  · exact ⟨k, A', c, l, rfl, (h.ok _ (getR_mem hg)).1, rfl⟩
theorem keys_take {α : Type} (L : List (List UInt8 × α)) (i : Nat) (hi : i < L.length) : keysR (L.take (i + 1)) = keysR (L.take i) ++ [L[i].1] := by
  unfold keysR
  rw [List.take_succ_eq_append_getElem hi, List.map_append]
  rfl
theorem Its.put1 {w w' : World} {A A' : Option Addr} {c' : Nat} {base : Nat} {L : List (List UInt8 × LV)} {p : List UInt8} (h : Its w A L) (ho : OwI w' base A' c' (putR L p dirV)) (hp : p.length ≤ 1048576) (hn : L.length ≤ 1000000) (k : Below w.heap.size w w') : Its w' A' (putR L p dirV) := by
  have := h.putI (v := dirV) (p := p) (base := base) (A' := A') (c' := c') (w' := w') ho ⟨Rd.nil, by simp [dirV], by simp [dirV]⟩ hp (by simp [dirV]) hn k
  exact this

end Go.Proofs.Ytkeledbgmpienaa

/- tree.Tree: Items, Size. -/
namespace Go.Proofs.Ytkeledbgmpienaa
open Go.RowKit

/-- rows of unlike things lie apart -/
theorem own_apart {w : World} {base base' : Nat} {e e' : TypeId} {s s' n n' : Nat} {v v' : Value} {xs xs' : List Value} (h : w.ownsRow base e s v n xs) (h' : w.ownsRow base' e' s' v' n' xs') (hne : e ≠ e') : ∀ g, v.ownBlock = some g → v'.ownBlock ≠ some g := by
  rcases h.2 with ⟨rfl, _⟩ | ⟨g', cap, cur, rfl, _, hh, _⟩
  · simp [Value.ownBlock]
  · intro g he
    have e1 : g' = g := by simpa [Value.ownBlock] using he
    subst e1
    have hb : Blk w g' e _ := hh
    exact Blk.own_ne hb h' (fun e => hne e.symm)
/-- items, each of the call's own, bytes and all -/
structure ItsOwn (w : World) (base : Nat) (A : Option Addr) (c : Nat) (M : List (List UInt8 × LV)) : Prop where
  row : OwI w base A c M
  byt : ∀ x ∈ M, OwB w base (.slice x.2.x.A x.2.x.l.length x.2.x.c) x.2.x.l
theorem ItsOwn.below {w w' : World} {base : Nat} {A : Option Addr} {c : Nat} {M : List (List UInt8 × LV)} (h : ItsOwn w base A c M) (k : Below w.heap.size w w') : ItsOwn w' base A c M := ⟨h.row.below k, fun x hx => own_below (h.byt x hx) k⟩
theorem ItsOwn.base {w : World} {base base' : Nat} {A : Option Addr} {c : Nat} {M : List (List UInt8 × LV)} (h : ItsOwn w base A c M) (hb : base' ≤ base) : ItsOwn w base' A c M :=
  ⟨own_base h.row (fun g hg => Nat.le_trans hb (h.row.lt g hg).1), fun x hx => own_base (h.byt x hx) (fun g hg => Nat.le_trans hb ((h.byt x hx).lt g hg).1)⟩
theorem ItsOwn.its {w : World} {base : Nat} {A : Option Addr} {c : Nat} {M : List (List UInt8 × LV)} (h : ItsOwn w base A c M) (hl : M.length ≤ 1099511627776) (ht : ∀ x ∈ M, x.1.length ≤ 1048576 ∧ x.2.x.l.length ≤ 140737488355328) : Its w A M :=
  h.row.its (fun x hx => by
    obtain ⟨A', c', e, h1, h2, _⟩ := own_form (h.byt x hx)
    injection e with e1 e2 e3
    subst e1 e3
    exact ⟨(h.byt x hx).rd.mono (fun _ _ _ => trivial), h1, h2⟩) hl ht
theorem ItsOwn.push {w w' : World} {base : Nat} {A A' : Option Addr} {c c' : Nat} {M : List (List UInt8 × LV)} {y : List UInt8 × LV} (h : ItsOwn w base A c M) (hy : OwB w base (.slice y.2.x.A y.2.x.l.length y.2.x.c) y.2.x.l) (hr : OwI w' base A' c' (M ++ [y])) (hb : Below base w w')
    (hk : ∀ k, k < w.heap.size → (Value.slice A M.length c).ownBlock ≠ some k → w'.heap[k]? = w.heap[k]?) : ItsOwn w' base A' c' (M ++ [y]) := by
  have hf : Fr (fun k => (Value.slice A M.length c).ownBlock = some k) w w' := ⟨hb.os, hb.tape, hb.output, hb.size, hk⟩
  refine ⟨hr, fun x hx => ?_⟩
  rcases List.mem_append.1 hx with hx | hx
  · exact own_fr (h.byt x hx) hf (own_apart (h.byt x hx) h.row (by decide))
  · rw [List.mem_singleton.1 hx]
    exact own_fr hy hf (own_apart hy h.row (by decide))
theorem plain_app (L M : List (List UInt8 × LV)) : plainL (L ++ M) = plainL L ++ plainL M := by simp [plainL]

theorem txt_at {w : World} {base : Nat} {A : Option Addr} {c : Nat} {l : List (List UInt8)} (h : w.ownsRow base 9 1 (.slice A l.length c) l.length (l.map stv)) {i : Nat} (hi : i < l.length) :
    ∃ b off, A = some ⟨b, off, none⟩ ∧ b < w.heap.size ∧ w.cell? ⟨b, off + i, none⟩ = some (stv l[i]) := by
  have hr : Rd w (fun _ => True) 1 A l.length (l.map stv) := Rd.of_own h (fun _ _ _ => trivial)
  obtain ⟨b, off, hA, _, hb, hc⟩ := hr.2 (by omega)
  exact ⟨b, off, hA, hb, hc i _ (by rw [List.getElem?_map, List.getElem?_eq_getElem hi]; rfl)⟩
set_option maxRecDepth 100000 in
set_option maxHeartbeats 1000000 in
theorem treeItems_any (hS : SortsT) (tb : Nat) (mo : Option Nat) (L : List (List UInt8 × LV)) (w : World) (h : TreeAt w tb mo L) :
    Calls Try.prog 17 #[.pointer (some ⟨tb, 0, none⟩)] w fun e w' => ∃ (A : Option Addr) (c : Nat) (M : List (List UInt8 × LV)), e = .returned (.slice A M.length c) ∧ Hid (plainL M = plainL L) ∧ ItsOwn w' w.heap.size A c M ∧ Below w.heap.size w w' := by
  have HT := Lib.hid h
  have hlen : L.length ≤ 128 := by have := h.plain.len; rwa [plain_len] at this
  have hsort : SortR L := (sort_map LV.p).1 h.plain.sort
  have hkl : ∀ q ∈ keysR L, q.length ≤ 96 := fun q hq => by
    obtain ⟨x, hx, rfl⟩ := List.mem_map.1 hq
    exact goodB_len (h.small hx).2.1
  have HP := Lib.hid (treeall_any hS tb mo L w h)
  clear h
  go_enter Try.func17, Try.ntmps17
  go_wp2_with fail
  refine HP.out.mono ?_
  rintro e w1 ⟨⟨A1, c1, l, rfl, hl, ho⟩, hb1⟩
  have hT1 := Lib.hid (HT.out.below hb1)
  have hll : l.length = L.length := by rw [hl.out, keys_len]
  have hs1 := hb1.size
  have HLL := Lib.hid hll
  clear HP HT hll
  go_wp2_with fail
  go_loopw [2, 8] (fun ov iv wr => ∃ (i : Nat) (A : Option Addr) (c : Nat) (M : List (List UInt8 × LV)), i ≤ l.length ∧ iv = .int .i64 (i : Int) ∧ ov = .slice A M.length c ∧ Hid (plainL M = plainL (L.take i)) ∧ M.length = i ∧ ItsOwn wr w1.heap.size A c M ∧ Below w1.heap.size w1 wr) (fun _ iv _ => l.length - (intOf iv).toNat)
  case atStart => exact ⟨0, none, 0, [], Nat.zero_le _, rfl, rfl, rfl, rfl, ⟨World.ownsRow_nil _ _ _ _, by simp⟩, Below.refl _ _⟩
  case round =>
    obtain ⟨i, A, c, M, hi, rfl, rfl, hM, hMi, hO, hb⟩ := hrel
    by_cases hlt : i < l.length
    · have hltL : i < L.length := by rw [← HLL.out]; exact hlt
      obtain ⟨b, off, hA, hbb, c0⟩ := txt_at ho hlt
      have hli : l[i] = L[i].1 := by
        have := hl.out
        subst this
        simp [keysR]
      rw [hli] at c0
      have hps := plain_snoc L i hltL
      have hget := hsort.get (List.getElem_mem hltL)
      have hpl : L[i].1.length ≤ 96 := hkl _ (List.mem_map.2 ⟨_, List.getElem_mem hltL, rfl⟩)
      subst hA
      obtain ⟨x, hx⟩ : ∃ x, x = L[i] := ⟨_, rfl⟩
      rw [← hx] at c0 hps hget hpl
      simp only [stv] at c0
      have hT2 := hT1.out.below hb
      have c0' := cellAt hb hbb c0
      have HPS := Lib.hid hps
      have HG := Lib.hid (treeGet_any tb mo L x.1 wr hT2 (by omega))
      rw [hget] at HG
      have hMe := Lib.hid hMi
      clear hps hget hx hli hT2 c0
      go_wp2_with fail
      refine HG.out.mono ?_
      rintro e w2 ⟨⟨A2, c2, l2, he, hl2, ho2⟩, hb2⟩
      obtain rfl : e = .returned (.agg #[.int .i64 x.2.k, .slice A2 l2.length c2]) := he
      have hl3 : l2 = x.2.x.l := hl2.out
      obtain ⟨y, hy⟩ : ∃ y : List UInt8 × LV, y = (x.1, ⟨x.2.k, ⟨A2, c2, l2⟩⟩) := ⟨_, rfl⟩
      have hw2 := hb.trans (hb2.mono hb.size)
      have ho3 : OwB w2 w1.heap.size (.slice y.2.x.A y.2.x.l.length y.2.x.c) y.2.x.l := by
        rw [hy]
        exact own_base ho2 (fun g hg => Nat.le_trans hb.size (ho2.lt g hg).1)
      have hpy : plainL [y] = [(x.1, x.2.p)] := by rw [hy]; show [(x.1, (x.2.k, l2))] = _; rw [hl3]; rfl
      have hba : Below w1.heap.size w1 (w2.alloc (.cells #[.string ⟨⟨x.1⟩⟩, .int .i64 x.2.k, .slice A2 l2.length c2] 56)) := hw2.alloc hw2.size _
      have hal : Below w2.heap.size w2 (w2.alloc (.cells #[.string ⟨⟨x.1⟩⟩, .int .i64 x.2.k, .slice A2 l2.length c2] 56)) := (Below.refl _ w2).alloc (Nat.le_refl _) _
      have hO3 := Lib.hid ((hO.below hb2).below hal)
      have ho4 := Lib.hid (own_below ho3 hal)
      have ra : Hid (Rd (w2.alloc (.cells #[.string ⟨⟨x.1⟩⟩, .int .i64 x.2.k, .slice A2 l2.length c2] 56)) (fun _ => True) 3 (some ⟨w2.heap.size, 0, none⟩) 1 (itemC y)) := (Rd.lit (w := w2) (t := 56) (size := 3) (n := 1) (xs := itemC y) (by rw [hy]; rfl) rfl rfl).mono (fun _ _ _ => trivial)
      have HN : Hid (plainL (M ++ [y]) = plainL (L.take (i + 1))) := by
        show _ = _
        rw [plain_app, hpy, HPS.out, hM.out]
      have hlb := Lib.hid (show M.length + 1 ≤ 1099511627776 by omega)
      clear hO ho2 ho3 hal hb2 hl2 hl3 hy hpy HPS HG hM hb c0' hMi
      go_wp2_with (at_builtin; refine wpList_append_item rfl (.tmp 12) (.tmp 18) (t := 31) rfl rfl rfl hO3.out.row rfl ra.out hlb.out hba.size ?_; intro A5 c5 w5 ho5 hb5 hk5)
      have hb6 := hba.trans hb5
      have hO5 := hO3.out.push ho4.out ho5 hb5 hk5
      have hl5 : (M ++ [y]).length = i + 1 := by rw [List.length_append, hMe.out]; rfl
      go_roundw
      case rel => exact ⟨i + 1, A5, c5, M ++ [y], hlt, by go_num, by simp, HN, hl5, hO5, hb6⟩
      case measure => simp [intOf]; omega
    · have e : i = l.length := by omega
      subst e
      have HN : Hid (plainL M = plainL L) := by
        show _ = _
        rw [hM.out, HLL.out, List.take_length]
      clear hM hMi
      go_wp2_with fail
      go_ret
      exact ⟨A, c, M, rfl, HN, hO.base hs1, hb1.trans (hb.mono hs1)⟩
/-- how many bytes -/
def sizeR (T : List (List UInt8 × LP)) : Nat := (T.map fun x => x.2.2.length).sum
theorem size_app (S T : List (List UInt8 × LP)) : sizeR (S ++ T) = sizeR S + sizeR T := by simp [sizeR]
theorem size_le (T : List (List UInt8 × LP)) (h : ∀ x ∈ T, x.2.2.length ≤ 4096) : sizeR T ≤ T.length * 4096 := by
  induction T with
  | nil => simp [sizeR]
  | cons x T ih =>
    have h1 := h x (by simp)
    have h2 := ih (fun y hy => h y (by simp [hy]))
    simp only [sizeR, List.map_cons, List.sum_cons, List.length_cons] at h2 ⊢
    omega
end Go.Proofs.Ytkeledbgmpienaa

/-
  DERIVED: THE SHELF's CONTRACTS AT THIS DUMP, IN PLAIN WORDS (tools/lay-plain.mjs out of 'TryLays.lean', which tools/lay-shelf.mjs wrote): THE SAME DECLARATIONS UNDER THE SAME NAMES: 'import', 'namespace', 'open', 'def', 'theorem' AND NOTHING ELSE: no command of the shelf's: FOR A HAND-IN. Each laying: the table of numbers ('.._ren') and one theorem, a field a fact of the dump's own or the kernel's comparison; each contract: ONE APPLICATION.
-/
namespace Go.Proofs
open Go.Shelf
def Try.sortT_ren : Go.Shelf.Ren := ⟨fun | 6 => 69 | 15 => 78 | 14 => 77 | 28 => 96 | 29 => 97 | 20 => 88 | 21 => 89 | 22 => 90 | 23 => 91 | 24 => 92 | 25 => 93 | 26 => 94 | 27 => 95 | 46 => 101 | 47 => 102 | 48 => 103 | 49 => 104 | 50 => 105 | 57 => 106 | n => n, fun | 22 => 66 | 24 => 9 | 25 => 48 | 3 => 3 | 39 => 98 | 0 => 0 | 53 => 114 | 55 => 116 | 4 => 4 | 46 => 108 | 45 => 107 | 50 => 45 | 5 => 5 | 9 => 9 | 66 => 119 | 70 => 123 | 76 => 125 | 77 => 126 | n => n, fun | n => n⟩
theorem Try.sortT : Go.Proofs.SlLaysF.n6 Try.prog Try.sortT_ren := {
  mixed := by kernel_rfl
  f6 := ⟨Try.f69.name, by decide, Try.func69.trans (congrArg some (by kernel_rfl))⟩
  f14 := ⟨Try.f77.name, by decide, Try.func77.trans (congrArg some (by kernel_rfl))⟩
  f15 := Try.func78.trans (congrArg some (by kernel_rfl))
  f20 := ⟨Try.f88.name, by decide, Try.func88.trans (congrArg some (by kernel_rfl))⟩
  f21 := ⟨Try.f89.name, by decide, Try.func89.trans (congrArg some (by kernel_rfl))⟩
  f22 := ⟨Try.f90.name, by decide, Try.func90.trans (congrArg some (by kernel_rfl))⟩
  f23 := ⟨Try.f91.name, by decide, Try.func91.trans (congrArg some (by kernel_rfl))⟩
  f24 := ⟨Try.f92.name, by decide, Try.func92.trans (congrArg some (by kernel_rfl))⟩
  f25 := ⟨Try.f93.name, by decide, Try.func93.trans (congrArg some (by kernel_rfl))⟩
  f26 := ⟨Try.f94.name, by decide, Try.func94.trans (congrArg some (by kernel_rfl))⟩
  f27 := ⟨Try.f95.name, by decide, Try.func95.trans (congrArg some (by kernel_rfl))⟩
  f28 := Try.func96.trans (congrArg some (by kernel_rfl))
  f29 := Try.func97.trans (congrArg some (by kernel_rfl))
  f46 := ⟨Try.f101.name, by decide, Try.func101.trans (congrArg some (by kernel_rfl))⟩
  f47 := Try.func102.trans (congrArg some (by kernel_rfl))
  f48 := Try.func103.trans (congrArg some (by kernel_rfl))
  f49 := ⟨Try.f104.name, by decide, Try.func104.trans (congrArg some (by kernel_rfl))⟩
  f50 := ⟨Try.f105.name, by decide, Try.func105.trans (congrArg some (by kernel_rfl))⟩
  f57 := ⟨Try.f106.name, by decide, Try.func106.trans (congrArg some (by kernel_rfl))⟩
  t0 := Try.underlying0
  a0 := Try.isAgg0
  z0 := Try.sizeOf0
  v0 := Try.zeroValue0
  t3 := Try.underlying3
  a3 := Try.isAgg3
  z3 := Try.sizeOf3
  v3 := Try.zeroValue3
  t4 := Try.underlying4
  a4 := Try.isAgg4
  z4 := Try.sizeOf4
  v4 := Try.zeroValue4
  t5 := Try.underlying5
  a5 := Try.isAgg5
  z5 := Try.sizeOf5
  v5 := Try.zeroValue5
  t9 := Try.underlying9
  a9 := Try.isAgg9
  z9 := Try.sizeOf9
  v9 := Try.zeroValue9
  t22 := Try.underlying66
  a22 := Try.isAgg66
  z22 := Try.sizeOf66
  v22 := Try.zeroValue66
  a24 := Try.isAgg9
  z24 := Try.sizeOf9
  t25 := Try.underlying48
  a25 := Try.isAgg48
  z25 := Try.sizeOf48
  v25 := Try.zeroValue48
  t39 := Try.underlying98
  a39 := Try.isAgg98
  z39 := Try.sizeOf98
  v39 := Try.zeroValue98
  t45 := Try.underlying107
  a45 := Try.isAgg107
  z45 := Try.sizeOf107
  v45 := Try.zeroValue107
  t46 := Try.underlying108
  a46 := Try.isAgg108
  z46 := Try.sizeOf108
  v46 := Try.zeroValue108
  t50 := Try.underlying45
  a50 := Try.isAgg45
  z50 := Try.sizeOf45
  v50 := Try.zeroValue45
  t53 := Try.underlying114
  a53 := Try.isAgg114
  z53 := Try.sizeOf114
  v53 := Try.zeroValue114
  t55 := Try.underlying116
  a55 := Try.isAgg116
  z55 := Try.sizeOf116
  v55 := Try.zeroValue116
  t66 := Try.underlying119
  a66 := Try.isAgg119
  z66 := Try.sizeOf119
  v66 := Try.zeroValue119
  t70 := Try.underlying123
  a70 := Try.isAgg123
  z70 := Try.sizeOf123
  v70 := Try.zeroValue123
  t76 := Try.underlying125
  a76 := Try.isAgg125
  z76 := Try.sizeOf125
  v76 := Try.zeroValue125
  t77 := Try.underlying126
  a77 := Try.isAgg126
  z77 := Try.sizeOf126
  v77 := Try.zeroValue126 }
def Try.cloneM_ren : Go.Shelf.Ren := ⟨fun | 5 => 49 | 7 => 68 | n => n, fun | 23 => 72 | 25 => 9 | 3 => 54 | 4 => 4 | 20 => 20 | n => n, fun | n => n⟩
theorem Try.cloneM : Go.Proofs.SlLaysW.n5 Try.prog Try.cloneM_ren := {
  mixed := by kernel_rfl
  f5 := ⟨Try.f49.name, by decide, Try.func49.trans (congrArg some (by kernel_rfl))⟩
  f7 := Try.func68.trans (congrArg some (by kernel_rfl))
  t4 := Try.underlying4
  a4 := Try.isAgg4
  z4 := Try.sizeOf4
  v4 := Try.zeroValue4
  t20 := Try.underlying20
  a20 := Try.isAgg20
  z20 := Try.sizeOf20
  v20 := Try.zeroValue20
  t23 := Try.underlying72
  a23 := Try.isAgg72
  z23 := Try.sizeOf72
  v23 := Try.zeroValue72 }
end Go.Proofs

/- tree.Tree.Clone, New without items. -/
namespace Go.Proofs.Ytkeledbgmpienaa
open Go.RowKit Go.Maps Go.Shelf

theorem MapAt.clone {b : Nat} {L : List (List UInt8 × Value)} {w : World} (h : MapAt w Try.prog 9 b L) :
    Calls Try.prog 49 #[.map (some b)] w fun e w' => e = .returned (.map (some w.heap.size)) ∧ MapAt w' Try.prog 9 w.heap.size L ∧ Below w.heap.size w w' := by
  obtain ⟨D, h1, h2⟩ := h.own
  have := AnyW.maps_Clone_owns Try.cloneM 9 heldR b L.length D w h1
  change Calls Try.prog 49 _ _ _ at this
  refine this.mono ?_
  rintro e w' ⟨rfl, k1, k2, k3⟩
  exact ⟨rfl, ⟨h.sort, ⟨D, k1, h2⟩, h.len⟩, k3⟩
theorem mapClone_nil (w : World) : Calls Try.prog 49 #[.map none] w fun e w' => e = .returned (.map none) ∧ w' = w := AnyW.maps_Clone_nil Try.cloneM w
/-- a clone: the same, at blocks of its own -/
theorem treeClone_any (tb : Nat) (mo : Option Nat) (L : List (List UInt8 × LV)) (w : World) (h : TreeAt w tb mo L) :
    Calls Try.prog 31 #[.pointer (some ⟨tb, 0, none⟩)] w fun e w' => ∃ (cb : Nat) (mo' : Option Nat), e = .returned (.pointer (some ⟨cb, 0, none⟩)) ∧ w.heap.size ≤ cb ∧ (∀ m, mo' = some m → w.heap.size ≤ m) ∧ TreeAt w' cb mo' L ∧ Below w.heap.size w w' := by
  have HT := Lib.hid h
  have c0 := h.c0
  rcases h.map with ⟨rfl, rfl⟩ | ⟨mb, rfl, hm⟩
  · clear h
    go_enter Try.func31, Try.ntmps31
    go_wp2_with fail
    refine (mapClone_nil _).mono ?_
    rintro e w1 ⟨rfl, rfl⟩
    go_wp2_with fail
    go_ret
    exact ⟨_, none, rfl, Nat.le_refl _, by simp, TreeAt.new _, (by repeat (first | exact Below.refl _ _ | refine Below.alloc ?_ (by simp) _ | refine Below.setCell ?_ (by simp) _ | refine Below.drew ?_))⟩
  · clear h
    have HM := Lib.hid hm
    clear hm
    go_enter Try.func31, Try.ntmps31
    go_wp2_with fail
    refine HM.out.clone.mono ?_
    rintro e w1 ⟨rfl, hm1, hb1⟩
    have hT1 := HT.out.below hb1
    have hs1 := hb1.size
    have hlt := hm1.lt
    have ba : Below w.heap.size w (w1.alloc (.cells #[.map (some w.heap.size)] 74)) := hb1.alloc hs1 _
    have bb : Below w1.heap.size w1 (w1.alloc (.cells #[.map (some w.heap.size)] 74)) := (Below.refl _ w1).alloc (Nat.le_refl _) _
    have HN : Hid (TreeAt (w1.alloc (.cells #[.map (some w.heap.size)] 74)) w1.heap.size (some w.heap.size) L) := by
      refine ⟨Blk.new _ _ _, .inr ⟨_, rfl, hm1.below bb⟩, fun x hx => ?_, HT.out.plain⟩
      exact OwB.below (HT.out.own x hx) ba
    clear hT1 hm1
    go_wp2_with fail
    go_ret
    exact ⟨_, some w.heap.size, rfl, hs1, fun m e => by injection e with e; omega, HN.out, ba⟩
end Go.Proofs.Ytkeledbgmpienaa

/- api.Leaf: as an argument. -/
namespace Go.Proofs.Ytkeledbgmpienaa
open Go.RowKit Go.WideShapes Go.ChangeShapes Go.ChangeAt Go.Deep Go.Joins

section
variable {H : Type} {enc : TypeId × Value → H} {w : World} {spare : Nat → Bool} {held : Bool}
/-- what is known of a leaf -/
structure LV.okAt (w : World) (Z : Nat → Prop) (o : LV) : Prop where
  x : o.x.ok w Z
  len : o.x.l.length ≤ 140737488355328
  k : -9223372036854775808 ≤ o.k ∧ o.k < 9223372036854775808
theorem list2 {α : Type} {l : List α} (h : l.length = 2) : ∃ a0 a1, l = [a0, a1] := by
  match l, h with
  | [a0, a1], _ => exact ⟨_, _, rfl⟩
set_option maxRecDepth 100000 in
theorem open_leaf {n : Nat} {cs : List Value} {x : DataW H × List MemPlace} (h : DataW.trod enc Try.prog w 0 spare held n 54 cs = some x) (hw : Within 54 x) :
    ∃ o : LV, cs = o.cells ∧ o.okAt w (fun b => b < w.heap.size) := by
  obtain ⟨ys, n', hcl, hyl, hf⟩ := open_st Try.underlying54 (by kernel_rfl) h (by kernel_rfl) hw
  obtain ⟨a0, a1, rfl⟩ := list2 hcl
  obtain ⟨y0, y1, rfl⟩ := list2 hyl
  obtain ⟨k, e, _, wk⟩ := DataW.trod_int Try.underlying3 (hf 0 _ _ _ rfl rfl rfl).1
  obtain rfl := List.singleton_inj.1 e
  obtain ⟨b, rfl, hb, hbl⟩ := open_bv (hf 1 _ _ _ rfl rfl rfl).1 (hf 1 _ _ _ rfl rfl rfl).2
  have bk := i64_bd wk
  exact ⟨⟨k, b⟩, rfl, hb, hbl, bk⟩
set_option maxRecDepth 100000 in
theorem open_leafv {r : Reach} {b0 : Nat} {v : Value} {d : DataW H} {p : List MemPlace} (hv : Value.okWide Try.prog w r b0 54 v) (h : DataW.Trod enc Try.prog w 0 spare held 54 v d p) (hw : Within 54 (d, p)) :
    ∃ o : LV, v = .agg #[.int .i64 o.k, .slice o.x.A o.x.l.length o.x.c] ∧ o.okAt w (fun b => b < w.heap.size) := by
  obtain ⟨cs, rfl, hsz⟩ := okWide_struct Try.underlying54 hv
  obtain ⟨l⟩ := cs
  obtain ⟨n, hn⟩ := h
  obtain ⟨o, e, ho⟩ := open_leaf (cs := l) hn hw
  subst e
  exact ⟨o, rfl, ho⟩
end
end Go.Proofs.Ytkeledbgmpienaa
