/- tenderref08: Set. -/
import Derived.Test.YtkeledbgmpienaaGreatA07
import Derived.Tactics2
import Derived.Shelf.SlSortCmp.NoneTotal
import Derived.Ground.SlsfProg
import Derived.Shelf.SlMaps.Clone
import Derived.Ground.SlmcProg
import Derived.Test.YtkeledbgmpienaaGreatProg
import Derived.ChangeMaps5

namespace Go.Proofs.YtkeledbgmpienaaGreat
open Go.RowKit

theorem paste_nil : ∀ (l : List (List UInt8)), pasteL l = [] → l = [] ∨ l = [[]]
  | [], _ => .inl rfl
  | [x], h => .inr (by rw [show x = [] from h])
  | x :: y :: l, h => by
    rw [pasteL] at h
    simp at h
/-- a parent is no empty path -/
theorem par_ne (p : List UInt8) : (parT p).2 = true ↔ (parT p).1 ≠ [] := by
  unfold parT
  split
  · rename_i h
    refine ⟨fun _ => ?_, fun _ => rfl⟩
    show pasteL _ ≠ []
    simp only [Bool.and_eq_true, decide_eq_true_eq] at h
    intro e
    have hg := h.1
    unfold goodB at hg
    simp only [Bool.and_eq_true, decide_eq_true_eq] at hg
    rcases paste_nil _ e with e | e
    · have := congrArg List.length e
      rw [List.length_dropLast] at this
      simp at this
      omega
    · have hm : ([] : List UInt8) ∈ cutL p := List.dropLast_subset _ (by rw [e]; simp)
      have := List.all_eq_true.1 hg.1.2 _ hm
      revert this
      decide
  · simp
theorem Its.putI {w w' : World} {A A' : Option Addr} {c' : Nat} {base : Nat} {L : List (List UInt8 × LV)} {p : List UInt8} {v : LV} (h : Its w A L) (ho : OwI w' base A' c' (putI L p v)) (hy : v.x.ok w (fun _ => True)) (hp : p.length ≤ 1048576) (hv : v.x.l.length ≤ 140737488355328) (hn : L.length ≤ 1000000) (k : Below w.heap.size w w') : Its w' A' (putI L p v) := by
  have hm : ∀ x ∈ Go.Proofs.YtkeledbgmpienaaGreat.putI L p v, x = (p, v) ∨ x ∈ L := by
    intro x hx
    unfold Go.Proofs.YtkeledbgmpienaaGreat.putI at hx
    split at hx
    · exact .inr (List.mem_filter.1 hx).1
    · rcases mem_ins.1 hx with e | e
      · exact .inl e
      · exact .inr (List.mem_filter.1 e).1
  refine ho.its (fun x hx => ?_) ?_ (fun x hx => ?_)
  · rcases hm x hx with rfl | e
    · exact hy.below k
    · exact (h.ok x e).below k
  · unfold Go.Proofs.YtkeledbgmpienaaGreat.putI
    have := without_len_le L p
    split
    · omega
    · unfold putR
      rw [ins_len]
      omega
  · rcases hm x hx with rfl | e
    · exact ⟨hp, hv⟩
    · exact h.txt x e
theorem kind_none {L : List (List UInt8 × LV)} (h : TreeOk (plainL L)) (p : List UInt8) : (kindL (getR (plainL L) p) = 0) ↔ (getR (plainL L) p).isNone = true := by
  rcases hg : getR (plainL L) p with _ | v
  · simp [kindL]
  · have h3 : v.1 = 1 ∨ v.1 = 2 := (h.good _ (getR_mem hg)).2.1
    refine ⟨fun e => ?_, fun e => by cases e⟩
    have e2 : v.1 = 0 := e
    omega
theorem leafO_form (o : Option LV) : ∃ vv, leafO o = .agg #[.int .i64 (kindL (o.map LV.p)), vv] := by
  rcases o with _ | ⟨k, A, c, l⟩
  · exact ⟨_, rfl⟩
  · exact ⟨_, rfl⟩
/-- what Set gives -/
def RefTo (w w' : World) (e : Ending) (M : Int) (T : List (List UInt8 × LV)) : Prop :=
  ∃ (A' : Option Addr) (c' : Nat) (l : List (List UInt8 × LV)), e = .returned (.tuple #[.slice A' l.length c', .int .i64 M]) ∧ Hid (l = T) ∧ Its w' A' l ∧ Below w.heap.size w w'
set_option maxRecDepth 100000 in
set_option maxHeartbeats 4000000 in
theorem refSet_any (A : Option Addr) (c : Nat) (L : List (List UInt8 × LV)) (p : List UInt8) (k : Int) (bA : Option Addr) (bc : Nat) (bl : List UInt8) (w : World) (h : Its w A L) (hok : TreeOk (plainL L)) (hy : BV.ok w (fun _ => True) ⟨bA, bc, bl⟩) (hp : p.length ≤ 1048576) (hn : bl.length ≤ 140737488355328) :
    Calls Tryz.prog 18 #[.slice A L.length c, .string ⟨⟨p⟩⟩, .agg #[.int .i64 k, .slice bA bl.length bc]] w fun e w' => RefTo w w' e (mayS (plainL L) p (k, bl)) (if mayS (plainL L) p (k, bl) = 0 then putI L p ⟨k, ⟨bA, bc, bl⟩⟩ else L) := by
  obtain ⟨M, hM⟩ : ∃ M, M = mayS (plainL L) p (k, bl) := ⟨_, rfl⟩
  obtain ⟨T, hT⟩ : ∃ T, T = if M = 0 then putI L p ⟨k, ⟨bA, bc, bl⟩⟩ else L := ⟨_, rfl⟩
  rw [← hM, ← hT]
  have HM := Lib.hid hM
  have HA : Hid (M = 0 → Hid (T = putI L p ⟨k, ⟨bA, bc, bl⟩⟩)) := fun e => Lib.hid (by rw [hT, if_pos e])
  have HB : Hid (M ≠ 0 → Hid (L = T)) := fun e => Lib.hid (by rw [hT, if_neg e])
  have HT := Lib.hid h
  have HY := Lib.hid hy
  have hpl : (plainL L).length = L.length := by simp [plainL]
  have hLn : L.length ≤ 1000000 := by have := hok.len; rw [hpl] at this; omega
  have hb0 : Below w.heap.size w (w.alloc (.cells #[.int .i64 k, .slice bA bl.length bc] 35)) := (by repeat (first | exact Below.refl _ _ | refine Below.alloc ?_ (by simp) _ | refine Below.setCell ?_ (by simp) _ | refine Below.drew ?_))
  have x0 := Blk.new w 35 #[.int .i64 k, .slice bA bl.length bc]
  have HCK := Lib.hid (fun W => leafCheckR_any k bA bl.length bc W hn)
  clear h hM hT hy
  go_enter Tryz.func18, Tryz.ntmps18
  go_wp2_with fail
  refine (refGood_any ⟨⟨p⟩⟩ (by show p.length ≤ _; omega) _).mono ?_
  rintro e w1 ⟨rfl, hb1⟩
  rw [show tl ⟨⟨p⟩⟩ = p from rfl]
  have hw1 := hb0.trans (hb1.mono hb0.size)
  have x1 := x0.below hb1
  clear hb1 x0 hb0
  cases hg : goodB p
  · obtain rfl : M = 23 := by rw [HM.out]; unfold mayS; rw [if_pos hg]
    obtain rfl := (HB.out (by decide)).out
    clear HM
    go_wp2_with fail
    go_ret2
    exact ⟨A, c, L, rfl, rfl, HT.out.below hw1, hw1⟩
  · have hp96 := goodB_len hg
    have q0 : w1.cell? ⟨w.heap.size, 0, none⟩ = some (.int .i64 k) := x1.cell 0
    have q1 : w1.cell? ⟨w.heap.size, 1, none⟩ = some (.slice bA bl.length bc) := x1.cell 1
    go_wp2_with fail
    refine (HCK.out _).mono ?_
    rintro e w2 ⟨rfl, hb2⟩
    have hw2 := hw1.trans (hb2.mono hw1.size)
    have x2 := x1.below hb2
    clear q0 q1 hb2 x1 hw1 HCK
    by_cases hc : checkN k bl.length = 0
    · rw [hc]
      have q0 : w2.cell? ⟨w.heap.size, 0, none⟩ = some (.int .i64 k) := x2.cell 0
      have HM1 : Hid (M = if k ≠ 2 ∧ ((keysR (plainL L)).filter fun q => underB q p) ≠ [] then 22 else if k = 0 then 0 else (if (parT p).2 = true ∧ kindL (getR (plainL L) (parT p).1) ≠ 2 then 22 else if (getR (plainL L) p).isNone ∧ 128 ≤ (plainL L).length then 24 else 0)) := by
        show _ = _
        rw [HM.out]
        unfold mayS
        rw [if_neg (by rw [hg]; simp), if_neg (by simpa using hc)]
      clear HM
      have hk := checkN_kind hc
      clear hc
      rcases hk with rfl | rfl | rfl
      · have HM : Hid (M = if ((keysR (plainL L)).filter fun q => underB q p) ≠ [] then 22 else 0) := by
          show _ = _
          rw [HM1.out]
          simp
        clear HM1
        go_wp2_with fail
        refine (refBelow_any A c L p w2 (HT.out.below hw2) hp).mono ?_
        rintro e w3 ⟨⟨A3, c3, l3, rfl, hl3, _⟩, hb3⟩
        have hw3 := hw2.trans (hb3.mono hw2.size)
        have xb := x2.below hb3
        have hlk : ((keysR (plainL L)).filter fun q => underB q p) = l3 := by rw [keys_plain]; exact hl3.out.symm
        rw [hlk] at HM
        clear hl3 hlk q0 x2 hb3
        have q0 : w3.cell? ⟨w.heap.size, 0, none⟩ = some (.int .i64 0) := xb.cell 0
        rcases l3 with _ | ⟨y, l3⟩
        · rw [if_neg (by simp)] at HM
          go_wp2_with fail
          obtain rfl : M = 0 := HM.out
          have hTv := HA.out rfl
          clear HM
          refine (refWithout_any A c L p w3 (HT.out.below hw3)).mono ?_
          rintro e w7 ⟨⟨A7, c7, l7, rfl, hl7, ho7⟩, hb7⟩
          have hw7 := hw3.trans (hb7.mono hw3.size)
          have hI7 : Its w7 A7 l7 := by
            rw [hl7.out] at ho7 ⊢
            exact HT.out.without ho7 hw7
          have e7 : Hid (l7 = T) := by show _ = _; rw [hl7.out, hTv.out]; rfl
          clear hl7 ho7
          go_wp2_with fail
          go_ret2
          exact ⟨A7, c7, l7, rfl, e7, hI7, hw7⟩
        · rw [if_pos (by simp)] at HM
          obtain rfl : M = 22 := HM.out
          obtain rfl := (HB.out (by decide)).out
          have hl0 : 0 < (y :: l3).length := by simp
          generalize (y :: l3).length = n3 at *
          clear HM
          go_wp2_with fail
          go_ret2
          exact ⟨A, c, L, rfl, rfl, HT.out.below hw3, hw3⟩

      · have HM : Hid (M = if ((keysR (plainL L)).filter fun q => underB q p) ≠ [] then 22 else (if (parT p).2 = true ∧ kindL (getR (plainL L) (parT p).1) ≠ 2 then 22 else if (getR (plainL L) p).isNone ∧ 128 ≤ (plainL L).length then 24 else 0)) := by
          show _ = _
          rw [HM1.out]
          simp
        clear HM1
        go_wp2_with fail
        refine (refBelow_any A c L p w2 (HT.out.below hw2) hp).mono ?_
        rintro e w3 ⟨⟨A3, c3, l3, rfl, hl3, _⟩, hb3⟩
        have hw3 := hw2.trans (hb3.mono hw2.size)
        have xb := x2.below hb3
        have hlk : ((keysR (plainL L)).filter fun q => underB q p) = l3 := by rw [keys_plain]; exact hl3.out.symm
        rw [hlk] at HM
        clear hl3 hlk q0 x2 hb3
        have q0 : w3.cell? ⟨w.heap.size, 0, none⟩ = some (.int .i64 1) := xb.cell 0
        rcases l3 with _ | ⟨y, l3⟩
        · rw [if_neg (by simp)] at HM
          go_wp2_with fail
          clear q0
          refine (refParent_any ⟨⟨p⟩⟩ (by show p.length ≤ _; omega) w3).mono ?_
          rintro e w4 ⟨⟨⟨t⟩⟩, rfl, ht, hb4⟩
          rw [show tl ⟨⟨p⟩⟩ = p from rfl, show tl ⟨⟨t⟩⟩ = t from rfl] at ht
          have htl : t.length ≤ 96 := by rw [ht.out]; exact parT_len p
          have hpo := par_ne p
          rw [← ht.out] at hpo HM
          have hw4 := hw3.trans (hb4.mono hw3.size)
          have xb4 := xb.below hb4
          clear ht hb4 xb
          by_cases ht0 : t = []
          · subst ht0
            rw [if_neg (by rw [hpo]; simp)] at HM
            clear hpo
            go_wp2_with fail
            refine (refGet08_any A c L p w4 (HT.out.below hw4) (by omega)).mono ?_
            rintro e w6 ⟨rfl, hb6⟩
            have hw6 := hw4.trans (hb6.mono hw4.size)
            have xb6 := xb4.below hb6
            clear hb6 xb4
            have hkn := kind_none hok p
            rw [get_plain] at hkn HM
            obtain ⟨vv, hv⟩ := leafO_form (getR L p)
            rw [hv]
            generalize kindL ((getR L p).map LV.p) = kp at *
            have hfk := fun W => leaf_kind kp vv W
            clear hv
            by_cases hk0 : kp = 0
            · subst hk0
              have hin := hkn.1 rfl
              rw [hin] at HM
              by_cases h128 : 128 ≤ L.length
              · obtain rfl : M = 24 := by rw [HM.out, if_pos ⟨rfl, by rw [hpl]; exact h128⟩]
                obtain rfl := (HB.out (by decide)).out
                clear HM hkn hin
                go_wp2_with fail
                go_ret2
                exact ⟨A, c, L, rfl, rfl, HT.out.below hw6, hw6⟩
              · obtain rfl : M = 0 := by rw [HM.out, if_neg (fun e => h128 (by rw [← hpl]; exact e.2))]
                have hTv := HA.out rfl
                clear HM hkn hin
                have q0 : w6.cell? ⟨w.heap.size, 0, none⟩ = some (.int .i64 1) := xb6.cell 0
                have q1 : w6.cell? ⟨w.heap.size, 1, none⟩ = some (.slice bA bl.length bc) := xb6.cell 1
                go_wp2_with fail
                refine (refPut_any A c L p 1 bA bc bl w6 (HT.out.below hw6) hp hLn).mono ?_
                rintro e w7 ⟨⟨A7, c7, l7, rfl, hl7, ho7⟩, hb7⟩
                have hw7 := hw6.trans (hb7.mono hw6.size)
                have hI7 : Its w7 A7 l7 := by
                  rw [hl7.out] at ho7 ⊢
                  exact HT.out.putI ho7 HY.out hp hn hLn hw7
                have e7 : Hid (l7 = T) := by show _ = _; rw [hl7.out, hTv.out]
                clear hl7 ho7
                go_wp2_with fail
                go_ret2
                exact ⟨A7, c7, l7, rfl, e7, hI7, hw7⟩
            · have hk0b : (kp == 0) = false := by simpa using hk0
              obtain rfl : M = 0 := by rw [HM.out, if_neg (fun e => hk0 (hkn.2 e.1))]
              have hTv := HA.out rfl
              clear HM hkn hk0
              have q0 : w6.cell? ⟨w.heap.size, 0, none⟩ = some (.int .i64 1) := xb6.cell 0
              have q1 : w6.cell? ⟨w.heap.size, 1, none⟩ = some (.slice bA bl.length bc) := xb6.cell 1
              go_wp2_with fail
              refine (refPut_any A c L p 1 bA bc bl w6 (HT.out.below hw6) hp hLn).mono ?_
              rintro e w7 ⟨⟨A7, c7, l7, rfl, hl7, ho7⟩, hb7⟩
              have hw7 := hw6.trans (hb7.mono hw6.size)
              have hI7 : Its w7 A7 l7 := by
                rw [hl7.out] at ho7 ⊢
                exact HT.out.putI ho7 HY.out hp hn hLn hw7
              have e7 : Hid (l7 = T) := by show _ = _; rw [hl7.out, hTv.out]
              clear hl7 ho7
              go_wp2_with fail
              go_ret2
              exact ⟨A7, c7, l7, rfl, e7, hI7, hw7⟩
          · have htb : (t == []) = false := by simpa using ht0
            have h2t : (parT p).2 = true := hpo.2 ht0
            rw [h2t, get_plain] at HM
            clear hpo h2t
            go_wp2_with fail
            refine (refGet08_any A c L t w4 (HT.out.below hw4) (by omega)).mono ?_
            rintro e w5 ⟨rfl, hb5⟩
            have hw5 := hw4.trans (hb5.mono hw4.size)
            have xb5 := xb4.below hb5
            clear hb5 xb4
            obtain ⟨vt, hvt⟩ := leafO_form (getR L t)
            rw [hvt]
            generalize kindL ((getR L t).map LV.p) = kt at *
            have hft := fun W => leaf_kind kt vt W
            clear hvt
            by_cases hk2 : kt = 2
            · subst hk2
              rw [if_neg (by simp)] at HM
              go_wp2_with fail
              refine (refGet08_any A c L p w5 (HT.out.below hw5) (by omega)).mono ?_
              rintro e w6 ⟨rfl, hb6⟩
              have hw6 := hw5.trans (hb6.mono hw5.size)
              have xb6 := xb5.below hb6
              clear hb6 xb5
              have hkn := kind_none hok p
              rw [get_plain] at hkn HM
              obtain ⟨vv, hv⟩ := leafO_form (getR L p)
              rw [hv]
              generalize kindL ((getR L p).map LV.p) = kp at *
              have hfk := fun W => leaf_kind kp vv W
              clear hv
              by_cases hk0 : kp = 0
              · subst hk0
                have hin := hkn.1 rfl
                rw [hin] at HM
                by_cases h128 : 128 ≤ L.length
                · obtain rfl : M = 24 := by rw [HM.out, if_pos ⟨rfl, by rw [hpl]; exact h128⟩]
                  obtain rfl := (HB.out (by decide)).out
                  clear HM hkn hin
                  go_wp2_with fail
                  go_ret2
                  exact ⟨A, c, L, rfl, rfl, HT.out.below hw6, hw6⟩
                · obtain rfl : M = 0 := by rw [HM.out, if_neg (fun e => h128 (by rw [← hpl]; exact e.2))]
                  have hTv := HA.out rfl
                  clear HM hkn hin
                  have q0 : w6.cell? ⟨w.heap.size, 0, none⟩ = some (.int .i64 1) := xb6.cell 0
                  have q1 : w6.cell? ⟨w.heap.size, 1, none⟩ = some (.slice bA bl.length bc) := xb6.cell 1
                  go_wp2_with fail
                  refine (refPut_any A c L p 1 bA bc bl w6 (HT.out.below hw6) hp hLn).mono ?_
                  rintro e w7 ⟨⟨A7, c7, l7, rfl, hl7, ho7⟩, hb7⟩
                  have hw7 := hw6.trans (hb7.mono hw6.size)
                  have hI7 : Its w7 A7 l7 := by
                    rw [hl7.out] at ho7 ⊢
                    exact HT.out.putI ho7 HY.out hp hn hLn hw7
                  have e7 : Hid (l7 = T) := by show _ = _; rw [hl7.out, hTv.out]
                  clear hl7 ho7
                  go_wp2_with fail
                  go_ret2
                  exact ⟨A7, c7, l7, rfl, e7, hI7, hw7⟩
              · have hk0b : (kp == 0) = false := by simpa using hk0
                obtain rfl : M = 0 := by rw [HM.out, if_neg (fun e => hk0 (hkn.2 e.1))]
                have hTv := HA.out rfl
                clear HM hkn hk0
                have q0 : w6.cell? ⟨w.heap.size, 0, none⟩ = some (.int .i64 1) := xb6.cell 0
                have q1 : w6.cell? ⟨w.heap.size, 1, none⟩ = some (.slice bA bl.length bc) := xb6.cell 1
                go_wp2_with fail
                refine (refPut_any A c L p 1 bA bc bl w6 (HT.out.below hw6) hp hLn).mono ?_
                rintro e w7 ⟨⟨A7, c7, l7, rfl, hl7, ho7⟩, hb7⟩
                have hw7 := hw6.trans (hb7.mono hw6.size)
                have hI7 : Its w7 A7 l7 := by
                  rw [hl7.out] at ho7 ⊢
                  exact HT.out.putI ho7 HY.out hp hn hLn hw7
                have e7 : Hid (l7 = T) := by show _ = _; rw [hl7.out, hTv.out]
                clear hl7 ho7
                go_wp2_with fail
                go_ret2
                exact ⟨A7, c7, l7, rfl, e7, hI7, hw7⟩
            · have hk2b : (kt != 2) = true := by simpa using hk2
              obtain rfl : M = 22 := by rw [HM.out, if_pos ⟨trivial, hk2⟩]
              obtain rfl := (HB.out (by decide)).out
              clear HM hk2
              go_wp2_with fail
              go_ret2
              exact ⟨A, c, L, rfl, rfl, HT.out.below hw5, hw5⟩

        · rw [if_pos (by simp)] at HM
          obtain rfl : M = 22 := HM.out
          obtain rfl := (HB.out (by decide)).out
          have hl0 : 0 < (y :: l3).length := by simp
          generalize (y :: l3).length = n3 at *
          clear HM
          go_wp2_with fail
          go_ret2
          exact ⟨A, c, L, rfl, rfl, HT.out.below hw3, hw3⟩

      · have HM : Hid (M = (if (parT p).2 = true ∧ kindL (getR (plainL L) (parT p).1) ≠ 2 then 22 else if (getR (plainL L) p).isNone ∧ 128 ≤ (plainL L).length then 24 else 0)) := by
          show _ = _
          rw [HM1.out]
          simp
        clear HM1
        go_wp2_with fail
        have xb := x2
        clear x2
        clear q0
        refine (refParent_any ⟨⟨p⟩⟩ (by show p.length ≤ _; omega) w2).mono ?_
        rintro e w4 ⟨⟨⟨t⟩⟩, rfl, ht, hb4⟩
        rw [show tl ⟨⟨p⟩⟩ = p from rfl, show tl ⟨⟨t⟩⟩ = t from rfl] at ht
        have htl : t.length ≤ 96 := by rw [ht.out]; exact parT_len p
        have hpo := par_ne p
        rw [← ht.out] at hpo HM
        have hw4 := hw2.trans (hb4.mono hw2.size)
        have xb4 := xb.below hb4
        clear ht hb4 xb
        by_cases ht0 : t = []
        · subst ht0
          rw [if_neg (by rw [hpo]; simp)] at HM
          clear hpo
          go_wp2_with fail
          refine (refGet08_any A c L p w4 (HT.out.below hw4) (by omega)).mono ?_
          rintro e w6 ⟨rfl, hb6⟩
          have hw6 := hw4.trans (hb6.mono hw4.size)
          have xb6 := xb4.below hb6
          clear hb6 xb4
          have hkn := kind_none hok p
          rw [get_plain] at hkn HM
          obtain ⟨vv, hv⟩ := leafO_form (getR L p)
          rw [hv]
          generalize kindL ((getR L p).map LV.p) = kp at *
          have hfk := fun W => leaf_kind kp vv W
          clear hv
          by_cases hk0 : kp = 0
          · subst hk0
            have hin := hkn.1 rfl
            rw [hin] at HM
            by_cases h128 : 128 ≤ L.length
            · obtain rfl : M = 24 := by rw [HM.out, if_pos ⟨rfl, by rw [hpl]; exact h128⟩]
              obtain rfl := (HB.out (by decide)).out
              clear HM hkn hin
              go_wp2_with fail
              go_ret2
              exact ⟨A, c, L, rfl, rfl, HT.out.below hw6, hw6⟩
            · obtain rfl : M = 0 := by rw [HM.out, if_neg (fun e => h128 (by rw [← hpl]; exact e.2))]
              have hTv := HA.out rfl
              clear HM hkn hin
              have q0 : w6.cell? ⟨w.heap.size, 0, none⟩ = some (.int .i64 2) := xb6.cell 0
              have q1 : w6.cell? ⟨w.heap.size, 1, none⟩ = some (.slice bA bl.length bc) := xb6.cell 1
              go_wp2_with fail
              refine (refPut_any A c L p 2 bA bc bl w6 (HT.out.below hw6) hp hLn).mono ?_
              rintro e w7 ⟨⟨A7, c7, l7, rfl, hl7, ho7⟩, hb7⟩
              have hw7 := hw6.trans (hb7.mono hw6.size)
              have hI7 : Its w7 A7 l7 := by
                rw [hl7.out] at ho7 ⊢
                exact HT.out.putI ho7 HY.out hp hn hLn hw7
              have e7 : Hid (l7 = T) := by show _ = _; rw [hl7.out, hTv.out]
              clear hl7 ho7
              go_wp2_with fail
              go_ret2
              exact ⟨A7, c7, l7, rfl, e7, hI7, hw7⟩
          · have hk0b : (kp == 0) = false := by simpa using hk0
            obtain rfl : M = 0 := by rw [HM.out, if_neg (fun e => hk0 (hkn.2 e.1))]
            have hTv := HA.out rfl
            clear HM hkn hk0
            have q0 : w6.cell? ⟨w.heap.size, 0, none⟩ = some (.int .i64 2) := xb6.cell 0
            have q1 : w6.cell? ⟨w.heap.size, 1, none⟩ = some (.slice bA bl.length bc) := xb6.cell 1
            go_wp2_with fail
            refine (refPut_any A c L p 2 bA bc bl w6 (HT.out.below hw6) hp hLn).mono ?_
            rintro e w7 ⟨⟨A7, c7, l7, rfl, hl7, ho7⟩, hb7⟩
            have hw7 := hw6.trans (hb7.mono hw6.size)
            have hI7 : Its w7 A7 l7 := by
              rw [hl7.out] at ho7 ⊢
              exact HT.out.putI ho7 HY.out hp hn hLn hw7
            have e7 : Hid (l7 = T) := by show _ = _; rw [hl7.out, hTv.out]
            clear hl7 ho7
            go_wp2_with fail
            go_ret2
            exact ⟨A7, c7, l7, rfl, e7, hI7, hw7⟩
        · have htb : (t == []) = false := by simpa using ht0
          have h2t : (parT p).2 = true := hpo.2 ht0
          rw [h2t, get_plain] at HM
          clear hpo h2t
          go_wp2_with fail
          refine (refGet08_any A c L t w4 (HT.out.below hw4) (by omega)).mono ?_
          rintro e w5 ⟨rfl, hb5⟩
          have hw5 := hw4.trans (hb5.mono hw4.size)
          have xb5 := xb4.below hb5
          clear hb5 xb4
          obtain ⟨vt, hvt⟩ := leafO_form (getR L t)
          rw [hvt]
          generalize kindL ((getR L t).map LV.p) = kt at *
          have hft := fun W => leaf_kind kt vt W
          clear hvt
          by_cases hk2 : kt = 2
          · subst hk2
            rw [if_neg (by simp)] at HM
            go_wp2_with fail
            refine (refGet08_any A c L p w5 (HT.out.below hw5) (by omega)).mono ?_
            rintro e w6 ⟨rfl, hb6⟩
            have hw6 := hw5.trans (hb6.mono hw5.size)
            have xb6 := xb5.below hb6
            clear hb6 xb5
            have hkn := kind_none hok p
            rw [get_plain] at hkn HM
            obtain ⟨vv, hv⟩ := leafO_form (getR L p)
            rw [hv]
            generalize kindL ((getR L p).map LV.p) = kp at *
            have hfk := fun W => leaf_kind kp vv W
            clear hv
            by_cases hk0 : kp = 0
            · subst hk0
              have hin := hkn.1 rfl
              rw [hin] at HM
              by_cases h128 : 128 ≤ L.length
              · obtain rfl : M = 24 := by rw [HM.out, if_pos ⟨rfl, by rw [hpl]; exact h128⟩]
                obtain rfl := (HB.out (by decide)).out
                clear HM hkn hin
                go_wp2_with fail
                go_ret2
                exact ⟨A, c, L, rfl, rfl, HT.out.below hw6, hw6⟩
              · obtain rfl : M = 0 := by rw [HM.out, if_neg (fun e => h128 (by rw [← hpl]; exact e.2))]
                have hTv := HA.out rfl
                clear HM hkn hin
                have q0 : w6.cell? ⟨w.heap.size, 0, none⟩ = some (.int .i64 2) := xb6.cell 0
                have q1 : w6.cell? ⟨w.heap.size, 1, none⟩ = some (.slice bA bl.length bc) := xb6.cell 1
                go_wp2_with fail
                refine (refPut_any A c L p 2 bA bc bl w6 (HT.out.below hw6) hp hLn).mono ?_
                rintro e w7 ⟨⟨A7, c7, l7, rfl, hl7, ho7⟩, hb7⟩
                have hw7 := hw6.trans (hb7.mono hw6.size)
                have hI7 : Its w7 A7 l7 := by
                  rw [hl7.out] at ho7 ⊢
                  exact HT.out.putI ho7 HY.out hp hn hLn hw7
                have e7 : Hid (l7 = T) := by show _ = _; rw [hl7.out, hTv.out]
                clear hl7 ho7
                go_wp2_with fail
                go_ret2
                exact ⟨A7, c7, l7, rfl, e7, hI7, hw7⟩
            · have hk0b : (kp == 0) = false := by simpa using hk0
              obtain rfl : M = 0 := by rw [HM.out, if_neg (fun e => hk0 (hkn.2 e.1))]
              have hTv := HA.out rfl
              clear HM hkn hk0
              have q0 : w6.cell? ⟨w.heap.size, 0, none⟩ = some (.int .i64 2) := xb6.cell 0
              have q1 : w6.cell? ⟨w.heap.size, 1, none⟩ = some (.slice bA bl.length bc) := xb6.cell 1
              go_wp2_with fail
              refine (refPut_any A c L p 2 bA bc bl w6 (HT.out.below hw6) hp hLn).mono ?_
              rintro e w7 ⟨⟨A7, c7, l7, rfl, hl7, ho7⟩, hb7⟩
              have hw7 := hw6.trans (hb7.mono hw6.size)
              have hI7 : Its w7 A7 l7 := by
                rw [hl7.out] at ho7 ⊢
                exact HT.out.putI ho7 HY.out hp hn hLn hw7
              have e7 : Hid (l7 = T) := by show _ = _; rw [hl7.out, hTv.out]
              clear hl7 ho7
              go_wp2_with fail
              go_ret2
              exact ⟨A7, c7, l7, rfl, e7, hI7, hw7⟩
          · have hk2b : (kt != 2) = true := by simpa using hk2
            obtain rfl : M = 22 := by rw [HM.out, if_pos ⟨trivial, hk2⟩]
            obtain rfl := (HB.out (by decide)).out
            clear HM hk2
            go_wp2_with fail
            go_ret2
            exact ⟨A, c, L, rfl, rfl, HT.out.below hw5, hw5⟩

    · obtain rfl : M = checkN k bl.length := by rw [HM.out]; unfold mayS; rw [if_neg (by rw [hg]; simp), if_pos (by simpa using hc)]
      obtain rfl := (HB.out hc).out
      have hcb : (checkN k bl.length != 0) = true := by simpa using hc
      clear HM
      go_wp2_with fail
      go_ret2
      exact ⟨A, c, L, rfl, rfl, HT.out.below hw2, hw2⟩

end Go.Proofs.YtkeledbgmpienaaGreat

/- A map stays where only new memory comes. No program. -/
namespace Go.Proofs.YtkeledbgmpienaaGreat
open Go.RowKit Go.Maps

theorem MapAt.below {P : Program} {K : TypeId} {w w' : World} {b : Nat} {L : List (List UInt8 × Value)} (h : MapAt w P K b L) (k : Below w.heap.size w w') : MapAt w' P K b L := h.block (k.block b h.lt)
end Go.Proofs.YtkeledbgmpienaaGreat

/- tree.Tree.Set. -/
namespace Go.Proofs.YtkeledbgmpienaaGreat
open Go.RowKit Go.Maps

/-- what a call of Set leaves -/
structure TreeTo (w : World) (tb : Nat) (mo : Option Nat) (T : List (List UInt8 × LP)) (w' : World) : Prop where
  at_ : ∃ mo' L', TreeAt w' tb mo' L' ∧ Hid (plainL L' = T) ∧ ∀ m, mo' = some m → mo = some m ∨ w.heap.size ≤ m
  fr : Fr (fun g => g = tb ∨ mo = some g) w w'
theorem TreeTo.of {w w' : World} {tb : Nat} {mo : Option Nat} {L : List (List UInt8 × LV)} (h : TreeAt w tb mo L) (k : Below w.heap.size w w') : TreeTo w tb mo (plainL L) w' :=
  ⟨⟨mo, L, h.below k, rfl, fun _ e => .inl e⟩, Fr.of_below k _⟩
theorem plain_put (L : List (List UInt8 × LV)) (p : List UInt8) (o : LV) : plainL (putR L p o) = putR (plainL L) p o.p := (put_map LV.p L p o).symm
theorem plain_without (L : List (List UInt8 × LV)) (p : List UInt8) : plainL (withoutR L p) = withoutR (plainL L) p := (without_map LV.p L p).symm
theorem mapL_put (L : List (List UInt8 × LV)) (p : List UInt8) (o : LV) : mapL (putR L p o) = putR (mapL L) p o.v := (put_map LV.v L p o).symm
theorem mapL_without (L : List (List UInt8 × LV)) (p : List UInt8) : mapL (withoutR L p) = withoutR (mapL L) p := (without_map LV.v L p).symm
theorem map_eq_nil (w : World) (m : Option Nat) : (binOp .eql 82 (.map m) (.map none)).run Tryz.prog w = .ok (.bool m.isNone) w := run_eql_map_nil w _ _ _ m Tryz.underlying82
/-- bytes do not stand where a map's pointer stands -/
theorem By.not_map {w : World} {Z : Nat → Prop} {A : Option Addr} {l : List UInt8} {tb : Nat} {t : TypeId} {mo : Option Nat} (h : By w Z A l) (hb : Blk w tb t #[.map mo]) : By w (fun b => b ≠ tb) A l := by
  refine ⟨h.1, fun hn => ?_⟩
  obtain ⟨b, off, e, hz, hlt, hc⟩ := h.2 hn
  refine ⟨b, off, e, fun eb => ?_, hlt, hc⟩
  subst eb
  rcases l with _ | ⟨x, l⟩
  · simp at hn
  · have h1 := hc 0 (bv x) rfl
    rw [hb.cell] at h1
    rcases Nat.eq_zero_or_pos (off + 0) with h0 | h0
    · rw [h0] at h1; simp [bv] at h1
    · rw [Array.getElem?_eq_none (by simp; omega)] at h1; cases h1
/-- the map written -/
theorem TreeAt.stored {w w' : World} {tb mb : Nat} {L : List (List UInt8 × LV)} {p : List UInt8} {o : LV} (hb : Blk w tb 84 #[.map (some mb)]) (hm : MapAt w' Tryz.prog 9 mb (putR (mapL L) p o.v)) (hg : w.grownBy w' (some mb)) (hne : mb ≠ tb)
    {K : List (List UInt8 × Value)} (hm0 : MapAt w Tryz.prog 9 mb K) (hok : ∀ x ∈ L, OwB w 0 (.slice x.2.x.A x.2.x.l.length x.2.x.c) x.2.x.l) (ho : OwB w 0 (.slice o.x.A o.x.l.length o.x.c) o.x.l) (hpl : TreeOk (plainL (putR L p o))) : TreeAt w' tb (some mb) (putR L p o) := by
  have f : Fr (fun g => g = mb) w w' := Fr.of_grown hg (fun k _ e => by injection e with e; exact e.symm)
  refine ⟨hb.grown hg (by simpa using hne), .inr ⟨mb, rfl, by rw [mapL_put]; exact hm⟩, fun x hx => ?_, hpl⟩
  unfold putR at hx
  rcases mem_ins.1 hx with rfl | hx
  · exact own_fr ho f (fun g e1 e2 => TreeAt.own_map hm0 ho (by rw [e1, e2]))
  · exact own_fr (hok x (List.mem_filter.1 hx).1) f (fun g e1 e2 => TreeAt.own_map hm0 (hok x (List.mem_filter.1 hx).1) (by rw [e1, e2]))
theorem TreeAt.dropped {w w' : World} {tb mb : Nat} {L : List (List UInt8 × LV)} {p : List UInt8} (h : TreeAt w tb (some mb) L) (hm : MapAt w' Tryz.prog 9 mb (withoutR (mapL L) p)) (hg : w.grownBy w' (some mb)) (hpl : TreeOk (plainL (withoutR L p))) : TreeAt w' tb (some mb) (withoutR L p) := by
  have f : Fr (fun g => g = mb) w w' := Fr.of_grown hg (fun k _ e => by injection e with e; exact e.symm)
  refine ⟨h.blk.grown hg (fun e => h.ne e), .inr ⟨mb, rfl, by rw [mapL_without]; exact hm⟩, fun x hx => ?_, hpl⟩
  exact own_fr (h.own x (List.mem_filter.1 hx).1) f (fun g e1 e2 => h.ownT (h.own x (List.mem_filter.1 hx).1) (by decide) g e1 (.inr (by rw [e2])))


set_option maxRecDepth 100000 in
set_option maxHeartbeats 2000000 in
theorem treeSet_any (hS : SortsT) (tb : Nat) (mo : Option Nat) (L : List (List UInt8 × LV)) (p : List UInt8) (k : Int) (A : Option Addr) (c : Nat) (l : List UInt8) (Z : Nat → Prop) (w : World) (h : TreeAt w tb mo L) (hy : By w Z A l) (hp : p.length ≤ 1048576) (hn : l.length ≤ 140737488355328) :
    Calls Tryz.prog 19 #[.pointer (some ⟨tb, 0, none⟩), .string ⟨⟨p⟩⟩, .agg #[.int .i64 k, .slice A l.length c]] w fun e w' => e = .returned (.int .i64 (mayS (plainL L) p (k, l))) ∧ TreeTo w tb mo (setS (plainL L) p (k, l)) w' := by
  have HPL := Lib.hid (h.plain.set p (k, l))
  obtain ⟨M, hM⟩ : ∃ M, M = mayS (plainL L) p (k, l) := ⟨_, rfl⟩
  obtain ⟨T, hTT⟩ : ∃ T, T = setS (plainL L) p (k, l) := ⟨_, rfl⟩
  rw [← hM, ← hTT]
  rw [← hTT] at HPL
  have HM := Lib.hid hM
  have HTT : Hid (T = if M = 0 then doS (plainL L) p (k, l) else plainL L) := by show _ = _; rw [hTT, hM]; rfl
  clear hTT
  have HT := Lib.hid h
  have HY := Lib.hid hy
  have hb0 : Below w.heap.size w (w.alloc (.cells #[.int .i64 k, .slice A l.length c] 35)) := (by repeat (first | exact Below.refl _ _ | refine Below.alloc ?_ (by simp) _ | refine Below.setCell ?_ (by simp) _ | refine Below.drew ?_))
  have x0 := Blk.new w 35 #[.int .i64 k, .slice A l.length c]
  have q0 : (w.alloc (.cells #[.int .i64 k, .slice A l.length c] 35)).cell? ⟨w.heap.size, 0, none⟩ = some (.int .i64 k) := x0.cell 0
  have q1 : (w.alloc (.cells #[.int .i64 k, .slice A l.length c] 35)).cell? ⟨w.heap.size, 1, none⟩ = some (.slice A l.length c) := x0.cell 1
  have hpw : goodB p = false → Hid (M = 23) := fun e => by show _ = _; rw [HM.out]; unfold mayS; rw [if_pos e]
  clear h hy hM
  go_enter Tryz.func19, Tryz.ntmps19
  go_wp2_with fail
  clear q0 q1
  refine (treemay_any hS tb mo L p k A c l _ (HT.out.below hb0) hp hn).mono ?_
  rintro e w1 ⟨rfl, hb1⟩
  rw [← HM.out]
  have hw1 := hb0.trans (hb1.mono hb0.size)
  have x1 := x0.below hb1
  clear x0 hb0 hb1
  by_cases hM0 : M = 0
  · have hMb : (M != 0) = false := by simp [hM0]
    have hk : k = 0 ∨ k = 1 ∨ k = 2 := by
      have e := HM.out
      rw [hM0] at e
      unfold mayS at e
      split at e
      · simp at e
      · split at e
        · rename_i h2; exact absurd e.symm h2
        · rename_i h2
          exact checkN_kind (by simpa using h2)
    have hg : goodB p = true := by
      rcases hgg : goodB p with _ | _
      · have := (hpw hgg).out; omega
      · rfl
    have hp96 := goodB_len hg
    have HT2 : Hid (T = doS (plainL L) p (k, l)) := by show _ = _; rw [HTT.out, if_pos hM0]
    clear HTT HM hpw hg
    have q0 : w1.cell? ⟨w.heap.size, 0, none⟩ = some (.int .i64 k) := x1.cell 0
    have h1 := HT.out.below hw1
    have c0 := h1.c0
    by_cases hk0 : k = 0
    · have HT3 : Hid (T = withoutR (plainL L) p) := by show _ = _; rw [HT2.out]; unfold doS; rw [if_pos hk0]
      clear HT2 hk
      subst hk0
      rcases h1.map with ⟨rfl, rfl⟩ | ⟨mb, rfl, hm⟩
      · have hdr := fun ty => Maps.drop_nil (w := w1) str_keyed Tryz.underlying82 (Go.WideMaps.keyOf_string_mk Tryz.underlying9 (s := ⟨⟨p⟩⟩) (by show p.length ≤ _; simp only [maxLen]; omega)) ty
        subst hM0
        clear h1
        go_wp2_with fail
        go_ret
        refine ⟨rfl, ?_⟩
        rw [HT3.out]
        exact TreeTo.of HT.out hw1
      · obtain ⟨w2, hrun, hm2, hg2, _⟩ := hm.drop Tryz.underlying9 Tryz.underlying82 p (by simp only [maxLen]; omega) 0
        have HD := Lib.hid (h1.dropped hm2 hg2 (by rw [plain_without, ← HT3.out]; exact HPL.out))
        subst hM0
        clear h1 hm hm2
        go_wp2_with fail
        go_ret
        refine ⟨rfl, ⟨some mb, withoutR L p, HD.out, by show _ = _; rw [HT3.out, plain_without], fun m e => .inl e⟩, ?_⟩
        exact (Fr.of_below hw1 _).trans (Fr.of_grown hg2 (S := fun g => some mb = some g) (fun k _ e => e)) (fun x _ e => .inr e)
    · have HT3 : Hid (T = putR (plainL L) p (k, l)) := by show _ = _; rw [HT2.out]; unfold doS; rw [if_neg hk0]
      have hk0b : (k == 0) = false := by simpa using hk0
      clear HT2 hk hk0
      subst hM0
      rcases h1.map with ⟨rfl, rfl⟩ | ⟨mb, rfl, hm⟩
      · have hmm := @run_makeMap Tryz.prog
        have hmn := fun W m => map_eq_nil W m
        have f0 := h1.f0
        have hsz := hw1.size
        have htl := h1.blk.lt
        have htw := HT.out.blk.lt
        have b3 : Blk ((w1.setCell ⟨tb, 0, none⟩ (.map (some w1.heap.size))).alloc (.map #[] 0)) tb 84 #[.map (some w1.heap.size)] := by simpa using (h1.blk.set_ 0 (.map (some w1.heap.size))).alloc (.map #[] 0)
        have fS : Fr (fun g => g = tb) w1 ((w1.setCell ⟨tb, 0, none⟩ (.map (some w1.heap.size))).alloc (.map #[] 0)) := ((Fr.refl (fun g => g = tb) w1).setAt tb 0 rfl _).alloc _
        have hm3 : MapAt ((w1.setCell ⟨tb, 0, none⟩ (.map (some w1.heap.size))).alloc (.map #[] 0)) Tryz.prog 9 w1.heap.size (mapL []) := by have := MapAt.made (w1.setCell ⟨tb, 0, none⟩ (.map (some w1.heap.size))) Tryz.prog 9; rwa [show (w1.setCell ⟨tb, 0, none⟩ (.map (some w1.heap.size))).heap.size = w1.heap.size by simp [World.setCell]] at this
        have hx3 := x1.fr fS (by omega)
        have HY3 := Lib.hid (show By ((w1.setCell ⟨tb, 0, none⟩ (.map (some w1.heap.size))).alloc (.map #[] 0)) (fun _ => True) A l from (((HY.out.below hw1).not_map h1.blk).fr fS (fun b _ hz e => hz e)).mono (fun _ _ _ => trivial))
        have hfr3 := (Fr.of_below hw1 (fun g => g = tb ∨ (none : Option Nat) = some g)).trans fS (fun x _ e => .inl e)
        have hne3 : w1.heap.size ≠ tb := by omega
        have hbig : w.heap.size ≤ w1.heap.size := hsz
        have hok3 : ∀ x ∈ ([] : List (List UInt8 × LV)), OwB ((w1.setCell ⟨tb, 0, none⟩ (.map (some w1.heap.size))).alloc (.map #[] 0)) 0 (.slice x.2.x.A x.2.x.l.length x.2.x.c) x.2.x.l := by simp
        go_wp2_with fail
        clear q0 x1 f0 fS hmm c0
        generalize (w1.setCell ⟨tb, 0, none⟩ (.map (some w1.heap.size))).alloc (.map #[] 0) = w3 at *
        generalize hmbe : w1.heap.size = mb at *
        clear hmbe
        refine wp_region_m [true, true, true, true, true, true, false] (fun W => Below w3.heap.size w3 W) (by kernel_rfl) (by kernel_rfl) ?_
        simp only [List.length_cons, List.length_nil, Nat.zero_add, Nat.reduceAdd, List.take_succ_cons, List.take_zero, List.drop_succ_cons, List.drop_zero]
        refine mx_move _ (by kernel_rfl) rfl ⟨_, (by ((try simp [go_sem]); (try rfl); done)), _, (by (simp only [Act.put, List.setIfInBounds_toArray, List.set_cons_zero, List.set_cons_succ]; rfl)), ?_⟩
        refine mx_val (by kernel_rfl) ⟨_, (by (intro w' hC; clear hC; (try go_simp); (try with_reducible rfl); done)), _, (by (simp only [Act.put, List.setIfInBounds_toArray, List.set_cons_zero, List.set_cons_succ]; rfl)), ?_⟩
        refine mx_val (by kernel_rfl) ⟨_, (by (intro w' hC; clear hC; (try go_simp); (try with_reducible rfl); done)), _, (by (simp only [Act.put, List.setIfInBounds_toArray, List.set_cons_zero, List.set_cons_succ]; rfl)), ?_⟩
        refine mx_val (by kernel_rfl) ⟨_, (by (intro w' hC; (have q := (b3.below hC).cell 0; simp at q); clear hC; (try go_simp); (try with_reducible rfl); done)), _, (by (simp only [Act.put, List.setIfInBounds_toArray, List.set_cons_zero, List.set_cons_succ]; rfl)), ?_⟩
        refine mx_move _ (by kernel_rfl) rfl ⟨_, (by ((try simp [go_sem]); (try rfl); done)), _, (by (simp only [Act.put, List.setIfInBounds_toArray, List.set_cons_zero, List.set_cons_succ]; rfl)), ?_⟩
        refine mx_val (by kernel_rfl) ⟨_, (by (intro w' hC; (have q0 := (hx3.below hC).cell 0; have q1 := (hx3.below hC).cell 1; simp at q0 q1); clear hC; (try go_simp); (try with_reducible rfl); done)), _, (by (simp only [Act.put, List.setIfInBounds_toArray, List.set_cons_zero, List.set_cons_succ]; rfl)), ?_⟩
        refine mx_call ((Below.refl _ _).drew) (by kernel_rfl) ?_ (leafClone_any k A c l _ w3.drew (HY3.out.drew) hn) ?_
        · (go_simp; done)
        rintro e w4 ⟨A4, c4, l4, rfl, hl4, ho4, hb4⟩
        have hlow4 : Below w3.heap.size w3 w4 := (Below.refl _ _).drew.trans (hb4.mono (Nat.le_refl _))
        refine ⟨_, rfl, _, (by (simp only [Act.put, List.setIfInBounds_toArray, List.set_cons_zero, List.set_cons_succ]; rfl)), ?_⟩
        refine mx_end hlow4 ?_
        have b4 := b3.below hlow4
        have hml := HPL.out.len
        rw [HT3.out, show putR (plainL ([] : List (List UInt8 × LV))) p (k, l) = plainL (putR ([] : List (List UInt8 × LV)) p ⟨k, ⟨A4, c4, l4⟩⟩) by rw [plain_put]; show _ = putR (plainL ([] : List (List UInt8 × LV))) p (k, l4); rw [hl4.out]] at HPL
        have hlen3 : (mapL ([] : List (List UInt8 × LV))).length < maxLen := by
          have h5 := (HT.out.plain).len
          simp only [mapL, plainL, List.length_map] at h5 ⊢
          simp only [maxLen]
          omega
        obtain ⟨w5, hrun5, hm5, hg5, _⟩ := (hm3.below hlow4).store Tryz.underlying9 Tryz.underlying82 p (by simp only [maxLen]; omega) (.agg #[.int .i64 k, .slice A4 l4.length c4]) hlen3
        have hlt3 := hm3.lt
        have htb3 := b3.lt
        obtain ⟨A4', c4', e4, hlc4, hcm4, hA4⟩ := ho4.form
        obtain ⟨rfl, rfl⟩ : A4 = A4' ∧ c4 = c4' := by simpa using e4
        have hoo : OwB w4 0 (.slice A4 l4.length c4) l4 := own_base ho4 (fun _ _ => Nat.zero_le _)
        have HD := Lib.hid (TreeAt.stored (o := ⟨k, ⟨A4, c4, l4⟩⟩) b4 hm5 hg5 hne3 (hm3.below hlow4) (fun x hx => OwB.below (hok3 x hx) hlow4) hoo HPL.out)
        have HPP : Hid (plainL (putR ([] : List (List UInt8 × LV)) p ⟨k, ⟨A4, c4, l4⟩⟩) = T) := by show _ = _; rw [plain_put, HT3.out]; show putR (plainL ([] : List (List UInt8 × LV))) p (k, l4) = _; rw [hl4.out]
        have hfr5 := (hfr3.then_below hlow4)
        clear b4 hm5 hm3 hok3 hoo ho4 b3 hx3 HY3
        go_wp2_with fail
        go_ret
        refine ⟨rfl, ⟨some mb, _, HD.out, HPP, fun m e => by injection e with e; subst e; exact .inr hbig⟩, ?_⟩
        exact hfr5.trans (Fr.of_grown hg5 (S := fun g => some mb = some g) (fun k _ e => e)) (fun x hx e => by injection e with e; omega)
      · have b3 := h1.blk
        have hmn := fun W m => map_eq_nil W m
        have hne3 : mb ≠ tb := fun e => h1.ne (by rw [e])
        have hok3 := h1.own
        have hm3 := hm
        have hfr3 := Fr.of_below hw1 (fun g => g = tb ∨ (some mb : Option Nat) = some g)
        have hx3 := x1
        have HY3 := Lib.hid (show By w1 (fun _ => True) A l from (HY.out.below hw1).mono (fun _ _ _ => trivial))
        go_wp2_with fail
        clear q0 x1 c0 hm
        obtain ⟨w3, rfl⟩ : ∃ x : World, x = w1 := ⟨_, rfl⟩
        refine wp_region_m [true, true, true, true, true, true, false] (fun W => Below w3.heap.size w3 W) (by kernel_rfl) (by kernel_rfl) ?_
        simp only [List.length_cons, List.length_nil, Nat.zero_add, Nat.reduceAdd, List.take_succ_cons, List.take_zero, List.drop_succ_cons, List.drop_zero]
        refine mx_move _ (by kernel_rfl) rfl ⟨_, (by ((try simp [go_sem]); (try rfl); done)), _, (by (simp only [Act.put, List.setIfInBounds_toArray, List.set_cons_zero, List.set_cons_succ]; rfl)), ?_⟩
        refine mx_val (by kernel_rfl) ⟨_, (by (intro w' hC; clear hC; (try go_simp); (try with_reducible rfl); done)), _, (by (simp only [Act.put, List.setIfInBounds_toArray, List.set_cons_zero, List.set_cons_succ]; rfl)), ?_⟩
        refine mx_val (by kernel_rfl) ⟨_, (by (intro w' hC; clear hC; (try go_simp); (try with_reducible rfl); done)), _, (by (simp only [Act.put, List.setIfInBounds_toArray, List.set_cons_zero, List.set_cons_succ]; rfl)), ?_⟩
        refine mx_val (by kernel_rfl) ⟨_, (by (intro w' hC; (have q := (b3.below hC).cell 0; simp at q); clear hC; (try go_simp); (try with_reducible rfl); done)), _, (by (simp only [Act.put, List.setIfInBounds_toArray, List.set_cons_zero, List.set_cons_succ]; rfl)), ?_⟩
        refine mx_move _ (by kernel_rfl) rfl ⟨_, (by ((try simp [go_sem]); (try rfl); done)), _, (by (simp only [Act.put, List.setIfInBounds_toArray, List.set_cons_zero, List.set_cons_succ]; rfl)), ?_⟩
        refine mx_val (by kernel_rfl) ⟨_, (by (intro w' hC; (have q0 := (hx3.below hC).cell 0; have q1 := (hx3.below hC).cell 1; simp at q0 q1); clear hC; (try go_simp); (try with_reducible rfl); done)), _, (by (simp only [Act.put, List.setIfInBounds_toArray, List.set_cons_zero, List.set_cons_succ]; rfl)), ?_⟩
        refine mx_call ((Below.refl _ _).drew) (by kernel_rfl) ?_ (leafClone_any k A c l _ w3.drew (HY3.out.drew) hn) ?_
        · (go_simp; done)
        rintro e w4 ⟨A4, c4, l4, rfl, hl4, ho4, hb4⟩
        have hlow4 : Below w3.heap.size w3 w4 := (Below.refl _ _).drew.trans (hb4.mono (Nat.le_refl _))
        refine ⟨_, rfl, _, (by (simp only [Act.put, List.setIfInBounds_toArray, List.set_cons_zero, List.set_cons_succ]; rfl)), ?_⟩
        refine mx_end hlow4 ?_
        have b4 := b3.below hlow4
        have hml := HPL.out.len
        rw [HT3.out, show putR (plainL L) p (k, l) = plainL (putR L p ⟨k, ⟨A4, c4, l4⟩⟩) by rw [plain_put]; show _ = putR (plainL L) p (k, l4); rw [hl4.out]] at HPL
        have hlen3 : (mapL L).length < maxLen := by
          have h5 := (HT.out.plain).len
          simp only [mapL, plainL, List.length_map] at h5 ⊢
          simp only [maxLen]
          omega
        obtain ⟨w5, hrun5, hm5, hg5, _⟩ := (hm3.below hlow4).store Tryz.underlying9 Tryz.underlying82 p (by simp only [maxLen]; omega) (.agg #[.int .i64 k, .slice A4 l4.length c4]) hlen3
        have hlt3 := hm3.lt
        have htb3 := b3.lt
        obtain ⟨A4', c4', e4, hlc4, hcm4, hA4⟩ := ho4.form
        obtain ⟨rfl, rfl⟩ : A4 = A4' ∧ c4 = c4' := by simpa using e4
        have hoo : OwB w4 0 (.slice A4 l4.length c4) l4 := own_base ho4 (fun _ _ => Nat.zero_le _)
        have HD := Lib.hid (TreeAt.stored (o := ⟨k, ⟨A4, c4, l4⟩⟩) b4 hm5 hg5 hne3 (hm3.below hlow4) (fun x hx => OwB.below (hok3 x hx) hlow4) hoo HPL.out)
        have HPP : Hid (plainL (putR L p ⟨k, ⟨A4, c4, l4⟩⟩) = T) := by show _ = _; rw [plain_put, HT3.out]; show putR (plainL L) p (k, l4) = _; rw [hl4.out]
        have hfr5 := (hfr3.then_below hlow4)
        clear b4 hm5 hm3 hok3 hoo ho4 b3 hx3 HY3
        go_wp2_with fail
        go_ret
        refine ⟨rfl, ⟨some mb, _, HD.out, HPP, fun m e => by injection e with e; subst e; exact .inl rfl⟩, ?_⟩
        exact hfr5.trans (Fr.of_grown hg5 (S := fun g => some mb = some g) (fun k _ e => e)) (fun x hx e => by exact .inr e)
  · have hMb : (M != 0) = true := by simpa using hM0
    obtain rfl : T = plainL L := by rw [HTT.out, if_neg hM0]
    clear hM0 HM hpw
    go_wp2_with fail
    go_ret
    exact ⟨rfl, TreeTo.of HT.out hw1⟩

end Go.Proofs.YtkeledbgmpienaaGreat

/- tenderref08: Same. -/
namespace Go.Proofs.YtkeledbgmpienaaGreat
open Go.RowKit

theorem plain_snoc (L : List (List UInt8 × LV)) (i : Nat) (hi : i < L.length) : plainL (L.take (i + 1)) = plainL (L.take i) ++ [(L[i].1, L[i].2.p)] := by
  unfold plainL
  rw [List.take_succ_eq_append_getElem hi, List.map_append]
  rfl
end Go.Proofs.YtkeledbgmpienaaGreat

/- A region in the text's order whose operations each yield ONE value and at most make memory (ClassF's steps without a drawn order). No program. -/
namespace Go.Proofs.YtkeledbgmpienaaGreat
open Go.RowKit

section
variable {P : Program} {ops : Array Oper} {W : World} {Q : Exit → Act → World → Prop} {Lq : Act → Prop}
end
end Go.Proofs.YtkeledbgmpienaaGreat

/- tenderref08: Diff. -/
namespace Go.Proofs.YtkeledbgmpienaaGreat
open Go.RowKit

def dirV : LV := ⟨2, ⟨none, 0, []⟩⟩
/-- all of some paths, in order, each once -/
def unionR (ps : List (List UInt8)) : List (List UInt8 × LV) := ps.foldl (fun T p => putR T p dirV) []
theorem union_snoc (ps : List (List UInt8)) (p : List UInt8) : unionR (ps ++ [p]) = putR (unionR ps) p dirV := by simp [unionR]
theorem put_len_le {α : Type} (L : List (List UInt8 × α)) (p : List UInt8) (v : α) : (putR L p v).length ≤ L.length + 1 := by
  unfold putR
  rw [ins_len]
  have := without_len_le L p
  omega
theorem union_len (ps : List (List UInt8)) (n : Nat) (h : ps.length = n) : (unionR ps).length ≤ n + 0 := by
  subst h
  have : ∀ (qs : List (List UInt8)) (T : List (List UInt8 × LV)), (qs.foldl (fun T p => putR T p dirV) T).length ≤ T.length + qs.length := by
    intro qs
    induction qs with
    | nil => intro T; simp
    | cons q qs ih =>
      intro T
      have := ih (putR T q dirV)
      have h2 := put_len_le T q dirV
      simp only [List.foldl_cons, List.length_cons]
      omega
  have := this ps []
  simpa [unionR] using this
/-- what stands there, or nothing -/
def at0 (T : List (List UInt8 × LP)) (p : List UInt8) : LP := (getR T p).getD (0, [])
def diffB (S T : List (List UInt8 × LP)) (p : List UInt8) : Bool := !(at0 S p == at0 T p)
/-- the paths at which they are not the same -/
def diffS (S T : List (List UInt8 × LP)) : List (List UInt8) := (keysR (unionR (keysR S ++ keysR T))).filter (diffB S T)
theorem leafO_by {w : World} {A : Option Addr} {L : List (List UInt8 × LV)} (h : Its w A L) (p : List UInt8) : ∃ (k : Int) (A' : Option Addr) (c : Nat) (l : List UInt8), leafO (getR L p) = .agg #[.int .i64 k, .slice A' l.length c] ∧ By w (fun _ => True) A' l ∧ Hid (at0 (plainL L) p = (k, l)) := by
  unfold at0
  rw [get_plain]
  rcases hg : getR L p with _ | ⟨k, A', c, l⟩
  · exact ⟨0, none, 0, [], rfl, Rd.nil, rfl⟩
  · exact ⟨k, A', c, l, rfl, (h.ok _ (getR_mem hg)).1, rfl⟩
theorem keys_take {α : Type} (L : List (List UInt8 × α)) (i : Nat) (hi : i < L.length) : keysR (L.take (i + 1)) = keysR (L.take i) ++ [L[i].1] := by
  unfold keysR
  rw [List.take_succ_eq_append_getElem hi, List.map_append]
  rfl
theorem Its.put1 {w w' : World} {A A' : Option Addr} {c' : Nat} {base : Nat} {L : List (List UInt8 × LV)} {p : List UInt8} (h : Its w A L) (ho : OwI w' base A' c' (putR L p dirV)) (hp : p.length ≤ 1048576) (hn : L.length ≤ 1000000) (k : Below w.heap.size w w') : Its w' A' (putR L p dirV) := by
  have := h.putI (v := dirV) (p := p) (base := base) (A' := A') (c' := c') (w' := w') ho ⟨Rd.nil, by simp [dirV], by simp [dirV]⟩ hp (by simp [dirV]) hn k
  exact this

set_option maxRecDepth 100000 in
set_option maxHeartbeats 2000000 in
theorem refDiff_any (A B : Option Addr) (c d : Nat) (L M : List (List UInt8 × LV)) (w : World) (h : Its w A L) (h' : Its w B M) (hn : L.length + M.length ≤ 1000000) :
    Calls Tryz.prog 27 #[.slice A L.length c, .slice B M.length d] w fun e w' => TxtOwn w' w.heap.size e (diffS (plainL L) (plainL M)) ∧ Below w.heap.size w w' := by
  have HL := Lib.hid h
  have HM := Lib.hid h'
  obtain ⟨D, hD⟩ : ∃ D, D = diffS (plainL L) (plainL M) := ⟨_, rfl⟩
  rw [← hD]
  have HD := Lib.hid hD
  obtain ⟨F, hF⟩ : ∃ F, F = diffB (plainL L) (plainL M) := ⟨_, rfl⟩
  have HF := Lib.hid hF
  clear h h' hD hF
  go_enter Tryz.func27, Tryz.ntmps27
  go_wp2_with fail
  go_loopw [5, 6] (fun ov iv wr => ∃ (i : Nat) (A' : Option Addr) (c' : Nat) (l : List (List UInt8 × LV)), i ≤ L.length ∧ iv = .int .i64 (i : Int) ∧ ov = .slice A' l.length c' ∧ Hid (l = unionR (keysR (L.take i))) ∧ l.length ≤ 0 + i ∧ Its wr A' l ∧ Below w.heap.size w wr) (fun _ iv _ => L.length - (intOf iv).toNat)
  case atStart => exact ⟨0, none, 0, [], Nat.zero_le _, rfl, rfl, rfl, by simp, Its.nil _, Below.refl _ _⟩
  case round =>
    obtain ⟨i, A', c', l, hi, rfl, rfl, hl, hli, hI, hb⟩ := hrel
    by_cases hlt : i < L.length
    · have hkt := keys_take L i hlt
      obtain ⟨b, off, hA, hbb, c0, c1, c2⟩ := (HL.out.below hb).at_ hlt
      have hxl := (HL.out.txt _ (List.getElem_mem hlt)).1
      subst hA
      obtain ⟨x, hx⟩ : ∃ x, x = L[i] := ⟨_, rfl⟩
      rw [← hx] at c0 c1 c2 hxl hkt
      simp only [stv] at c0
      have hl2 := Lib.hid hl.out
      have HKT := Lib.hid hkt
      clear hl hkt hx
      go_wp2_with fail
      refine (refPut_any A' c' l x.1 2 none 0 [] wr hI hxl (by omega)).mono ?_
      rintro e w2 ⟨⟨A7, c7, l7, rfl, hl7, ho7⟩, hb7⟩
      have e7 : l7 = putR l x.1 dirV := by rw [hl7.out]; rfl
      have hI7 : Its w2 A7 l7 := by
        rw [e7] at ho7 ⊢
        exact hI.put1 ho7 hxl (by omega) hb7
      have hw7 := hb.trans (hb7.mono hb.size)
      have hln : l7.length ≤ 0 + (i + 1) := by rw [e7]; have := put_len_le l x.1 dirV; omega
      have HN : Hid (l7 = unionR (keysR (L.take (i + 1)))) := by
        show _ = _
        rw [e7, HKT.out, union_snoc, ← hl2.out]
      clear e7 hl7 ho7 hb7 hI hl2 HKT c0 c1 c2
      go_wp2_with fail
      go_roundw
      case rel => exact ⟨i + 1, A7, c7, l7, hlt, by go_num, rfl, HN, hln, hI7, hw7⟩
      case measure => simp [intOf]; omega
    · have e : i = L.length := by omega
      subst e
      rw [List.take_length] at hl
      clear hi hlt
      go_wp2_with fail
      clear hli
      obtain ⟨L0, hL0⟩ : ∃ n, n = L.length := ⟨_, rfl⟩
      have hn0 := Lib.hid hL0
      have hll : l.length ≤ L0 + 0 := by rw [hl.out]; rw [hL0]; exact union_len _ _ (keys_len L)
      go_loopw [5, 7] (fun ov iv wr => ∃ (i : Nat) (A' : Option Addr) (c' : Nat) (l : List (List UInt8 × LV)), i ≤ M.length ∧ iv = .int .i64 (i : Int) ∧ ov = .slice A' l.length c' ∧ Hid (l = unionR (keysR L ++ keysR (M.take i))) ∧ l.length ≤ L0 + i ∧ Its wr A' l ∧ Below w.heap.size w wr) (fun _ iv _ => M.length - (intOf iv).toNat)
      case atStart => exact ⟨0, A', c', l, Nat.zero_le _, rfl, rfl, by show _ = _; rw [hl.out]; simp [keysR], hll, hI, hb⟩
      case round =>
        clear hl hI hb hll
        obtain ⟨i, A', c', l, hi, rfl, rfl, hl, hli, hI, hb⟩ := hrel
        by_cases hlt : i < M.length
        · have hkt := keys_take M i hlt
          obtain ⟨b, off, hA, hbb, c0, c1, c2⟩ := (HM.out.below hb).at_ hlt
          have hxl := (HM.out.txt _ (List.getElem_mem hlt)).1
          subst hA
          obtain ⟨x, hx⟩ : ∃ x, x = M[i] := ⟨_, rfl⟩
          rw [← hx] at c0 c1 c2 hxl hkt
          simp only [stv] at c0
          have hl2 := Lib.hid hl.out
          have HKT := Lib.hid hkt
          clear hl hkt hx
          go_wp2_with fail
          refine (refPut_any A' c' l x.1 2 none 0 [] wr hI hxl (by omega)).mono ?_
          rintro e w2 ⟨⟨A7, c7, l7, rfl, hl7, ho7⟩, hb7⟩
          have e7 : l7 = putR l x.1 dirV := by rw [hl7.out]; rfl
          have hI7 : Its w2 A7 l7 := by
            rw [e7] at ho7 ⊢
            exact hI.put1 ho7 hxl (by omega) hb7
          have hw7 := hb.trans (hb7.mono hb.size)
          have hln : l7.length ≤ L0 + (i + 1) := by rw [e7]; have := put_len_le l x.1 dirV; omega
          have HN : Hid (l7 = unionR (keysR L ++ keysR (M.take (i + 1)))) := by
            show _ = _
            rw [e7, HKT.out, ← List.append_assoc, union_snoc, ← hl2.out]
          clear e7 hl7 ho7 hb7 hI hl2 HKT c0 c1 c2
          go_wp2_with fail
          go_roundw
          case rel => exact ⟨i + 1, A7, c7, l7, hlt, by go_num, rfl, HN, hln, hI7, hw7⟩
          case measure => simp [intOf]; omega
        · have e : i = M.length := by omega
          subst e
          rw [List.take_length] at hl
          have HD2 : Hid (D = (keysR l).filter F) := by
            show _ = _
            rw [HD.out, HF.out, hl.out, ← keys_plain L, ← keys_plain M]
            rfl
          have hl9 : l.length ≤ 1000000 := by omega
          clear hi hlt hli HD hl hL0 hn0
          go_wp2_with fail
          have hIw := Lib.hid hI
          have hbw := Lib.hid hb
          clear hI hb
          generalize wr = wb at *
          go_loopw [8, 9] (fun ov iv wr => ∃ (i : Nat) (Ao : Option Addr) (co : Nat) (o : List (List UInt8)), i ≤ l.length ∧ iv = .int .i64 (i : Int) ∧ ov = .slice Ao o.length co ∧ Hid (o = (keysR (l.take i)).filter F) ∧ o.length ≤ i ∧ wr.ownsRow wb.heap.size 9 1 (.slice Ao o.length co) o.length (o.map stv) ∧ Below wb.heap.size wb wr) (fun _ iv _ => l.length - (intOf iv).toNat)
          case atStart => exact ⟨0, none, 0, [], Nat.zero_le _, rfl, rfl, rfl, Nat.le_refl _, World.ownsRow_nil _ _ _ _, Below.refl _ _⟩
          case round =>
            obtain ⟨i, Ao, co, o, hi, rfl, rfl, ho, hoi, hown, hb⟩ := hrel
            have hwz := hbw.out.trans (hb.mono hbw.out.size)
            have hI := hIw.out.below hb
            by_cases hlt : i < l.length
            · have hsn := keys_snoc l F i hlt
              obtain ⟨b, off, hA, hbb, c0, c1', c2'⟩ := hI.at_ hlt
              have hxl := (hI.txt _ (List.getElem_mem hlt)).1
              subst hA
              obtain ⟨x, hx⟩ : ∃ x, x = l[i] := ⟨_, rfl⟩
              rw [← hx] at c0 hxl hsn
              simp only [stv] at c0
              have HSN := Lib.hid hsn
              have HLw : ∀ W, Below wr.heap.size wr W → Its W A L := fun W hW => HL.out.below (hwz.trans (hW.mono hwz.size))
              have HMw : ∀ W, Below wr.heap.size wr W → Its W B M := fun W hW => HM.out.below (hwz.trans (hW.mono hwz.size))
              obtain ⟨k1, A1, c1, l1, hv1, hy1, ha1⟩ := leafO_by (HLw wr (Below.refl _ _)) x.1
              obtain ⟨k2, A3, d2, l2, hv2, hy2, ha2⟩ := leafO_by (HMw wr (Below.refl _ _)) x.1
              have HG1 := Lib.hid (fun W (hW : Below wr.heap.size wr W) => refGet08_any A c L x.1 W (HLw W hW) (by omega))
              have HG2 := Lib.hid (fun W (hW : Below wr.heap.size wr W) => refGet08_any B d M x.1 W (HMw W hW) (by omega))
              rw [hv1] at HG1
              rw [hv2] at HG2
              obtain ⟨sm, hsm⟩ : ∃ sm, sm = (k1 == k2 && l1 == l2) := ⟨_, rfl⟩
              have HG3 := Lib.hid (fun W (hW : Below wr.heap.size wr W) => leafSameR_any k1 k2 A1 A3 c1 d2 l1 l2 _ _ W (hy1.below hW) (hy2.below hW))
              rw [← hsm] at HG3
              have hFx : Hid (F x.1 = !sm) := by
                show _ = _
                rw [HF.out]
                unfold diffB
                rw [ha1.out, ha2.out, hsm]
                rfl
              clear hsn c1' c2' hx ha1 ha2 hsm hv1 hv2 hy1 hy2 HLw HMw
              go_wp2_with fail
              refine wp_region_b 16 (by kernel_rfl) (by kernel_rfl) ?_
              simp only [List.take_succ_cons, List.take_zero, List.drop_succ_cons, List.drop_zero]
              refine lb_move _ (by kernel_rfl) rfl ⟨_, (by ((try simp [go_sem]); (try rfl); done)), _, (by (simp only [Act.put, List.setIfInBounds_toArray, List.set_cons_zero, List.set_cons_succ]; rfl)), ?_⟩
              refine lb_move _ (by kernel_rfl) rfl ⟨_, (by ((try simp [go_sem]); (try rfl); done)), _, (by (simp only [Act.put, List.setIfInBounds_toArray, List.set_cons_zero, List.set_cons_succ]; rfl)), ?_⟩
              refine lb_move _ (by kernel_rfl) rfl ⟨_, (by ((try simp [go_sem]); (try rfl); done)), _, (by (simp only [Act.put, List.setIfInBounds_toArray, List.set_cons_zero, List.set_cons_succ]; rfl)), ?_⟩
              refine lb_val (by kernel_rfl) ⟨_, (by (intro w' hC; clear hC; (try go_simp); (try with_reducible rfl); done)), _, (by (simp only [Act.put, List.setIfInBounds_toArray, List.set_cons_zero, List.set_cons_succ]; rfl)), ?_⟩
              refine lb_val (by kernel_rfl) ⟨_, (by (intro w' hC; clear hC; (try go_simp); (try with_reducible rfl); done)), _, (by (simp only [Act.put, List.setIfInBounds_toArray, List.set_cons_zero, List.set_cons_succ]; rfl)), ?_⟩
              refine lb_val (by kernel_rfl) ⟨_, (by (intro w' hC; (have q := cellAt hC hbb c0); clear hC; (try go_simp); (try with_reducible rfl); done)), _, (by (simp only [Act.put, List.setIfInBounds_toArray, List.set_cons_zero, List.set_cons_succ]; rfl)), ?_⟩
              refine lb_call (by kernel_rfl) (fun w' hC => HG1.out w' hC) (by (intro w'; go_simp; done)) ⟨_, (by (simp only [Act.put, List.setIfInBounds_toArray, List.set_cons_zero, List.set_cons_succ]; rfl)), ?_⟩
              refine lb_move _ (by kernel_rfl) rfl ⟨_, (by ((try simp [go_sem]); (try rfl); done)), _, (by (simp only [Act.put, List.setIfInBounds_toArray, List.set_cons_zero, List.set_cons_succ]; rfl)), ?_⟩
              refine lb_move _ (by kernel_rfl) rfl ⟨_, (by ((try simp [go_sem]); (try rfl); done)), _, (by (simp only [Act.put, List.setIfInBounds_toArray, List.set_cons_zero, List.set_cons_succ]; rfl)), ?_⟩
              refine lb_move _ (by kernel_rfl) rfl ⟨_, (by ((try simp [go_sem]); (try rfl); done)), _, (by (simp only [Act.put, List.setIfInBounds_toArray, List.set_cons_zero, List.set_cons_succ]; rfl)), ?_⟩
              refine lb_val (by kernel_rfl) ⟨_, (by (intro w' hC; clear hC; (try go_simp); (try with_reducible rfl); done)), _, (by (simp only [Act.put, List.setIfInBounds_toArray, List.set_cons_zero, List.set_cons_succ]; rfl)), ?_⟩
              refine lb_val (by kernel_rfl) ⟨_, (by (intro w' hC; clear hC; (try go_simp); (try with_reducible rfl); done)), _, (by (simp only [Act.put, List.setIfInBounds_toArray, List.set_cons_zero, List.set_cons_succ]; rfl)), ?_⟩
              refine lb_val (by kernel_rfl) ⟨_, (by (intro w' hC; (have q := cellAt hC hbb c0); clear hC; (try go_simp); (try with_reducible rfl); done)), _, (by (simp only [Act.put, List.setIfInBounds_toArray, List.set_cons_zero, List.set_cons_succ]; rfl)), ?_⟩
              refine lb_call (by kernel_rfl) (fun w' hC => HG2.out w' hC) (by (intro w'; go_simp; done)) ⟨_, (by (simp only [Act.put, List.setIfInBounds_toArray, List.set_cons_zero, List.set_cons_succ]; rfl)), ?_⟩
              refine lb_call (by kernel_rfl) (fun w' hC => HG3.out w' hC) (by (intro w'; go_simp; done)) ⟨_, (by (simp only [Act.put, List.setIfInBounds_toArray, List.set_cons_zero, List.set_cons_succ]; rfl)), ?_⟩
              refine lb_val (by kernel_rfl) ⟨_, (by (intro w' hC; clear hC; (try go_simp); (try with_reducible rfl); done)), _, (by (simp only [Act.put, List.setIfInBounds_toArray, List.set_cons_zero, List.set_cons_succ]; rfl)), ?_⟩
              refine .nil ?_
              intro w4 hlow4
              have hw4 := hb.trans (hlow4.mono hb.size)
              have ho4 := own_below hown hlow4
              have c4 : w4.cell? ⟨b, off + i * 3, none⟩ = some (.string ⟨⟨x.1⟩⟩) := cellAt hlow4 hbb c0
              clear hown hI hwz c0 HG1 HG2 HG3 hb hlow4
              cases sm
              · have HN : Hid (o ++ [x.1] = (keysR (l.take (i + 1))).filter F) := by
                  show _ = _
                  rw [HSN.out, if_pos (by rw [hFx.out]; rfl), ho.out]
                have hs4 := hw4.size
                have hba : Below wb.heap.size wb (w4.alloc (.cells #[.string ⟨⟨x.1⟩⟩] 9)) := hw4.alloc hs4 _
                have oa := Lib.hid (own_below ho4 ((Below.refl _ w4).alloc (Nat.le_refl _) (.cells #[.string ⟨⟨x.1⟩⟩] 9)))
                have ra : Hid (Rd (w4.alloc (.cells #[.string ⟨⟨x.1⟩⟩] 9)) (fun _ => True) 1 (some ⟨w4.heap.size, 0, none⟩) 1 [stv x.1]) := (Rd.lit (w := w4) (t := 9) (size := 1) (n := 1) (xs := [stv x.1]) rfl rfl rfl).mono (fun _ _ _ => trivial)
                clear HSN ho hFx ho4
                go_wp2_with (at_builtin; refine wpList_append_txt rfl (.tmp 60) (.tmp 66) (t := 67) rfl rfl rfl oa.out rfl ra.out (by omega) hba.size ?_; intro A5 c5 w5 ho5 hb5)
                have hb6 := hba.trans hb5
                go_roundw
                case rel => exact ⟨i + 1, A5, c5, o ++ [x.1], hlt, by go_num, by simp, HN, by simp; omega, ho5, hb6⟩
                case measure => simp [intOf]; omega
              · have HN : Hid (o = (keysR (l.take (i + 1))).filter F) := by
                  show _ = _
                  rw [HSN.out, if_neg (by rw [hFx.out]; simp), ho.out, List.append_nil]
                clear HSN ho hFx c4
                go_wp2_with fail
                go_roundw
                case rel => exact ⟨i + 1, Ao, co, o, hlt, by go_num, rfl, HN, by omega, ho4, hw4⟩
                case measure => simp [intOf]; omega
            · have e : i = l.length := by omega
              subst e
              have HN : Hid (o = D) := by
                show _ = _
                rw [HD2.out, ho.out, List.take_length]
              clear ho HD2
              go_wp2_with fail
              go_ret
              exact ⟨⟨Ao, co, o, rfl, HN, own_base hown (fun g hg => Nat.le_trans hbw.out.size (hown.lt g hg).1)⟩, hwz⟩

end Go.Proofs.YtkeledbgmpienaaGreat

/- tree.Tree: Items, Size. -/
namespace Go.Proofs.YtkeledbgmpienaaGreat
open Go.RowKit

/-- items, each of the call's own, bytes and all -/
structure ItsOwn (w : World) (base : Nat) (A : Option Addr) (c : Nat) (M : List (List UInt8 × LV)) : Prop where
  row : OwI w base A c M
  byt : ∀ x ∈ M, OwB w base (.slice x.2.x.A x.2.x.l.length x.2.x.c) x.2.x.l
theorem ItsOwn.below {w w' : World} {base : Nat} {A : Option Addr} {c : Nat} {M : List (List UInt8 × LV)} (h : ItsOwn w base A c M) (k : Below w.heap.size w w') : ItsOwn w' base A c M := ⟨h.row.below k, fun x hx => own_below (h.byt x hx) k⟩
theorem ItsOwn.base {w : World} {base base' : Nat} {A : Option Addr} {c : Nat} {M : List (List UInt8 × LV)} (h : ItsOwn w base A c M) (hb : base' ≤ base) : ItsOwn w base' A c M :=
  ⟨own_base h.row (fun g hg => Nat.le_trans hb (h.row.lt g hg).1), fun x hx => own_base (h.byt x hx) (fun g hg => Nat.le_trans hb ((h.byt x hx).lt g hg).1)⟩
theorem ItsOwn.its {w : World} {base : Nat} {A : Option Addr} {c : Nat} {M : List (List UInt8 × LV)} (h : ItsOwn w base A c M) (hl : M.length ≤ 1099511627776) (ht : ∀ x ∈ M, x.1.length ≤ 1048576 ∧ x.2.x.l.length ≤ 140737488355328) : Its w A M :=
  h.row.its (fun x hx => by
    obtain ⟨A', c', e, h1, h2, _⟩ := own_form (h.byt x hx)
    injection e with e1 e2 e3
    subst e1 e3
    exact ⟨(h.byt x hx).rd.mono (fun _ _ _ => trivial), h1, h2⟩) hl ht
end Go.Proofs.YtkeledbgmpienaaGreat

/-
  DERIVED: THE SHELF's CONTRACTS AT THIS DUMP, IN PLAIN WORDS (tools/lay-plain.mjs out of 'TryzLays.lean', which tools/lay-shelf.mjs wrote): THE SAME DECLARATIONS UNDER THE SAME NAMES: 'import', 'namespace', 'open', 'def', 'theorem' AND NOTHING ELSE: no command of the shelf's: FOR A HAND-IN. Each laying: the table of numbers ('.._ren') and one theorem, a field a fact of the dump's own or the kernel's comparison; each contract: ONE APPLICATION.
-/
namespace Go.Proofs
open Go.Shelf
def Tryz.sortT_ren : Go.Shelf.Ren := ⟨fun | 6 => 83 | 15 => 92 | 14 => 91 | 28 => 104 | 29 => 105 | 20 => 96 | 21 => 97 | 22 => 98 | 23 => 99 | 24 => 100 | 25 => 101 | 26 => 102 | 27 => 103 | 46 => 106 | 47 => 107 | 48 => 108 | 49 => 109 | 50 => 110 | 57 => 111 | n => n, fun | 22 => 67 | 24 => 9 | 25 => 68 | 3 => 3 | 39 => 116 | 0 => 0 | 53 => 121 | 55 => 29 | 4 => 4 | 46 => 126 | 45 => 125 | 50 => 80 | 5 => 5 | 9 => 9 | 66 => 133 | 70 => 137 | 76 => 139 | 77 => 140 | n => n, fun | n => n⟩
theorem Tryz.sortT : Go.Proofs.SlLaysF.n6 Tryz.prog Tryz.sortT_ren := {
  mixed := by kernel_rfl
  f6 := ⟨Tryz.f83.name, by decide, Tryz.func83.trans (congrArg some (by kernel_rfl))⟩
  f14 := ⟨Tryz.f91.name, by decide, Tryz.func91.trans (congrArg some (by kernel_rfl))⟩
  f15 := Tryz.func92.trans (congrArg some (by kernel_rfl))
  f20 := ⟨Tryz.f96.name, by decide, Tryz.func96.trans (congrArg some (by kernel_rfl))⟩
  f21 := ⟨Tryz.f97.name, by decide, Tryz.func97.trans (congrArg some (by kernel_rfl))⟩
  f22 := ⟨Tryz.f98.name, by decide, Tryz.func98.trans (congrArg some (by kernel_rfl))⟩
  f23 := ⟨Tryz.f99.name, by decide, Tryz.func99.trans (congrArg some (by kernel_rfl))⟩
  f24 := ⟨Tryz.f100.name, by decide, Tryz.func100.trans (congrArg some (by kernel_rfl))⟩
  f25 := ⟨Tryz.f101.name, by decide, Tryz.func101.trans (congrArg some (by kernel_rfl))⟩
  f26 := ⟨Tryz.f102.name, by decide, Tryz.func102.trans (congrArg some (by kernel_rfl))⟩
  f27 := ⟨Tryz.f103.name, by decide, Tryz.func103.trans (congrArg some (by kernel_rfl))⟩
  f28 := Tryz.func104.trans (congrArg some (by kernel_rfl))
  f29 := Tryz.func105.trans (congrArg some (by kernel_rfl))
  f46 := ⟨Tryz.f106.name, by decide, Tryz.func106.trans (congrArg some (by kernel_rfl))⟩
  f47 := Tryz.func107.trans (congrArg some (by kernel_rfl))
  f48 := Tryz.func108.trans (congrArg some (by kernel_rfl))
  f49 := ⟨Tryz.f109.name, by decide, Tryz.func109.trans (congrArg some (by kernel_rfl))⟩
  f50 := ⟨Tryz.f110.name, by decide, Tryz.func110.trans (congrArg some (by kernel_rfl))⟩
  f57 := ⟨Tryz.f111.name, by decide, Tryz.func111.trans (congrArg some (by kernel_rfl))⟩
  t0 := Tryz.underlying0
  a0 := Tryz.isAgg0
  z0 := Tryz.sizeOf0
  v0 := Tryz.zeroValue0
  t3 := Tryz.underlying3
  a3 := Tryz.isAgg3
  z3 := Tryz.sizeOf3
  v3 := Tryz.zeroValue3
  t4 := Tryz.underlying4
  a4 := Tryz.isAgg4
  z4 := Tryz.sizeOf4
  v4 := Tryz.zeroValue4
  t5 := Tryz.underlying5
  a5 := Tryz.isAgg5
  z5 := Tryz.sizeOf5
  v5 := Tryz.zeroValue5
  t9 := Tryz.underlying9
  a9 := Tryz.isAgg9
  z9 := Tryz.sizeOf9
  v9 := Tryz.zeroValue9
  t22 := Tryz.underlying67
  a22 := Tryz.isAgg67
  z22 := Tryz.sizeOf67
  v22 := Tryz.zeroValue67
  a24 := Tryz.isAgg9
  z24 := Tryz.sizeOf9
  t25 := Tryz.underlying68
  a25 := Tryz.isAgg68
  z25 := Tryz.sizeOf68
  v25 := Tryz.zeroValue68
  t39 := Tryz.underlying116
  a39 := Tryz.isAgg116
  z39 := Tryz.sizeOf116
  v39 := Tryz.zeroValue116
  t45 := Tryz.underlying125
  a45 := Tryz.isAgg125
  z45 := Tryz.sizeOf125
  v45 := Tryz.zeroValue125
  t46 := Tryz.underlying126
  a46 := Tryz.isAgg126
  z46 := Tryz.sizeOf126
  v46 := Tryz.zeroValue126
  t50 := Tryz.underlying80
  a50 := Tryz.isAgg80
  z50 := Tryz.sizeOf80
  v50 := Tryz.zeroValue80
  t53 := Tryz.underlying121
  a53 := Tryz.isAgg121
  z53 := Tryz.sizeOf121
  v53 := Tryz.zeroValue121
  t55 := Tryz.underlying29
  a55 := Tryz.isAgg29
  z55 := Tryz.sizeOf29
  v55 := Tryz.zeroValue29
  t66 := Tryz.underlying133
  a66 := Tryz.isAgg133
  z66 := Tryz.sizeOf133
  v66 := Tryz.zeroValue133
  t70 := Tryz.underlying137
  a70 := Tryz.isAgg137
  z70 := Tryz.sizeOf137
  v70 := Tryz.zeroValue137
  t76 := Tryz.underlying139
  a76 := Tryz.isAgg139
  z76 := Tryz.sizeOf139
  v76 := Tryz.zeroValue139
  t77 := Tryz.underlying140
  a77 := Tryz.isAgg140
  z77 := Tryz.sizeOf140
  v77 := Tryz.zeroValue140 }
def Tryz.cloneM_ren : Go.Shelf.Ren := ⟨fun | 5 => 56 | 7 => 68 | n => n, fun | 23 => 82 | 25 => 9 | 3 => 35 | 4 => 4 | 20 => 20 | n => n, fun | n => n⟩
theorem Tryz.cloneM : Go.Proofs.SlLaysW.n5 Tryz.prog Tryz.cloneM_ren := {
  mixed := by kernel_rfl
  f5 := ⟨Tryz.f56.name, by decide, Tryz.func56.trans (congrArg some (by kernel_rfl))⟩
  f7 := Tryz.func68.trans (congrArg some (by kernel_rfl))
  t4 := Tryz.underlying4
  a4 := Tryz.isAgg4
  z4 := Tryz.sizeOf4
  v4 := Tryz.zeroValue4
  t20 := Tryz.underlying20
  a20 := Tryz.isAgg20
  z20 := Tryz.sizeOf20
  v20 := Tryz.zeroValue20
  t23 := Tryz.underlying82
  a23 := Tryz.isAgg82
  z23 := Tryz.sizeOf82
  v23 := Tryz.zeroValue82 }
end Go.Proofs

/- tree.Tree.Clone, New without items. -/
namespace Go.Proofs.YtkeledbgmpienaaGreat
open Go.RowKit Go.Maps Go.Shelf

theorem MapAt.clone {b : Nat} {L : List (List UInt8 × Value)} {w : World} (h : MapAt w Tryz.prog 9 b L) :
    Calls Tryz.prog 56 #[.map (some b)] w fun e w' => e = .returned (.map (some w.heap.size)) ∧ MapAt w' Tryz.prog 9 w.heap.size L ∧ Below w.heap.size w w' := by
  obtain ⟨D, h1, h2⟩ := h.own
  have := AnyW.maps_Clone_owns Tryz.cloneM 9 heldR b L.length D w h1
  change Calls Tryz.prog 56 _ _ _ at this
  refine this.mono ?_
  rintro e w' ⟨rfl, k1, k2, k3⟩
  exact ⟨rfl, ⟨h.sort, ⟨D, k1, h2⟩, h.len⟩, k3⟩
theorem mapClone_nil (w : World) : Calls Tryz.prog 56 #[.map none] w fun e w' => e = .returned (.map none) ∧ w' = w := AnyW.maps_Clone_nil Tryz.cloneM w
/-- a clone: the same, at blocks of its own -/
theorem treeClone_any (tb : Nat) (mo : Option Nat) (L : List (List UInt8 × LV)) (w : World) (h : TreeAt w tb mo L) :
    Calls Tryz.prog 30 #[.pointer (some ⟨tb, 0, none⟩)] w fun e w' => ∃ (cb : Nat) (mo' : Option Nat), e = .returned (.pointer (some ⟨cb, 0, none⟩)) ∧ w.heap.size ≤ cb ∧ (∀ m, mo' = some m → w.heap.size ≤ m) ∧ TreeAt w' cb mo' L ∧ Below w.heap.size w w' := by
  have HT := Lib.hid h
  have c0 := h.c0
  rcases h.map with ⟨rfl, rfl⟩ | ⟨mb, rfl, hm⟩
  · clear h
    go_enter Tryz.func30, Tryz.ntmps30
    go_wp2_with fail
    refine (mapClone_nil _).mono ?_
    rintro e w1 ⟨rfl, rfl⟩
    go_wp2_with fail
    go_ret
    exact ⟨_, none, rfl, Nat.le_refl _, by simp, TreeAt.new _, (by repeat (first | exact Below.refl _ _ | refine Below.alloc ?_ (by simp) _ | refine Below.setCell ?_ (by simp) _ | refine Below.drew ?_))⟩
  · clear h
    have HM := Lib.hid hm
    clear hm
    go_enter Tryz.func30, Tryz.ntmps30
    go_wp2_with fail
    refine HM.out.clone.mono ?_
    rintro e w1 ⟨rfl, hm1, hb1⟩
    have hT1 := HT.out.below hb1
    have hs1 := hb1.size
    have hlt := hm1.lt
    have ba : Below w.heap.size w (w1.alloc (.cells #[.map (some w.heap.size)] 84)) := hb1.alloc hs1 _
    have bb : Below w1.heap.size w1 (w1.alloc (.cells #[.map (some w.heap.size)] 84)) := (Below.refl _ w1).alloc (Nat.le_refl _) _
    have HN : Hid (TreeAt (w1.alloc (.cells #[.map (some w.heap.size)] 84)) w1.heap.size (some w.heap.size) L) := by
      refine ⟨Blk.new _ _ _, .inr ⟨_, rfl, hm1.below bb⟩, fun x hx => ?_, HT.out.plain⟩
      exact OwB.below (HT.out.own x hx) ba
    clear hT1 hm1
    go_wp2_with fail
    go_ret
    exact ⟨_, some w.heap.size, rfl, hs1, fun m e => by injection e with e; omega, HN.out, ba⟩
end Go.Proofs.YtkeledbgmpienaaGreat

/- api.Leaf: as an argument. -/
namespace Go.Proofs.YtkeledbgmpienaaGreat
open Go.RowKit Go.WideShapes Go.ChangeShapes Go.ChangeAt Go.Deep Go.Joins

section
variable {H : Type} {enc : TypeId × Value → H} {w : World} {spare : Nat → Bool} {held : Bool}
/-- what is known of a leaf -/
structure LV.okAt (w : World) (Z : Nat → Prop) (o : LV) : Prop where
  x : o.x.ok w Z
  len : o.x.l.length ≤ 140737488355328
  k : -9223372036854775808 ≤ o.k ∧ o.k < 9223372036854775808
theorem list2 {α : Type} {l : List α} (h : l.length = 2) : ∃ a0 a1, l = [a0, a1] := by
  match l, h with
  | [a0, a1], _ => exact ⟨_, _, rfl⟩
set_option maxRecDepth 100000 in
theorem open_leaf {n : Nat} {cs : List Value} {x : DataW H × List MemPlace} (h : DataW.trod enc Tryz.prog w 0 spare held n 35 cs = some x) (hw : Within 35 x) :
    ∃ o : LV, cs = o.cells ∧ o.okAt w (fun b => b < w.heap.size) := by
  obtain ⟨ys, n', hcl, hyl, hf⟩ := open_st Tryz.underlying35 (by kernel_rfl) h (by kernel_rfl) hw
  obtain ⟨a0, a1, rfl⟩ := list2 hcl
  obtain ⟨y0, y1, rfl⟩ := list2 hyl
  obtain ⟨k, e, _, wk⟩ := DataW.trod_int Tryz.underlying3 (hf 0 _ _ _ rfl rfl rfl).1
  obtain rfl := List.singleton_inj.1 e
  obtain ⟨b, rfl, hb, hbl⟩ := open_bv (hf 1 _ _ _ rfl rfl rfl).1 (hf 1 _ _ _ rfl rfl rfl).2
  have bk := i64_bd wk
  exact ⟨⟨k, b⟩, rfl, hb, hbl, bk⟩
end
end Go.Proofs.YtkeledbgmpienaaGreat

/- api.Item in slices: as an argument. -/
namespace Go.Proofs.YtkeledbgmpienaaGreat
open Go.RowKit Go.WideShapes Go.ChangeShapes Go.ChangeAt Go.ChangeMaps Go.Deep Go.Joins

/-- items as they come in -/
structure ItA (w : World) (A : Option Addr) (L : List (List UInt8 × LV)) : Prop where
  rd : Rd w (fun b => b < w.heap.size) 3 A L.length (L.flatMap itemC)
  ok : ∀ x ∈ L, x.2.okAt w (fun b => b < w.heap.size) ∧ x.1.length ≤ 140737488355328
  len : L.length ≤ 140737488355328
section
variable {H : Type} {enc : TypeId × Value → H} {w : World} {spare : Nat → Bool} {held : Bool}
/-- a struct of fields of any number of cells -/
theorem open_sti {t : TypeId} {fs : Array Field} {N : Nat} (hs : Tryz.prog.underlying t = some (.struct fs)) {n : Nat} {cs : List Value} {x : DataW H × List MemPlace} (h : DataW.trod enc Tryz.prog w 0 spare held n t cs = some x) (hC : Tryz.prog.cellsOf t = N) (hw : Within t x) :
    ∃ (ys : List (DataW H × List MemPlace)) (n' : Nat), cs.length = N ∧ ys.length = fs.size ∧
      ∀ (j : Nat) (f : Field) (y : DataW H × List MemPlace), fs[j]? = some f → ys[j]? = some y → DataW.trod enc Tryz.prog w 0 spare held n' f.type ((cs.drop f.offset).take (Tryz.prog.cellsOf f.type)) = some y ∧ Within f.type y := by
  obtain ⟨xs, n', _, hx, hl, hlen, hg⟩ := DataW.trod_struct hs h
  rw [hC] at hl
  refine ⟨xs, n', hl, hlen, fun j f y hj hy => ⟨by rw [hg j f hj, hy], fun k hk => hw k ?_⟩⟩
  rw [hx]
  simp only [DataW.weights, hs]
  refine DataW.weights_mem_each (j := j) (t := f.type) (d := y.1) ?_ ?_ k hk
  · rw [List.getElem?_map]
    have : fs.toList[j]? = some f := by simpa using hj
    rw [this]; rfl
  · rw [List.getElem?_map, hy]; rfl
theorem list3i {α : Type} {l : List α} (h : l.length = 3) : ∃ a0 a1 a2, l = [a0, a1, a2] := by
  match l, h with
  | [a0, a1, a2], _ => exact ⟨_, _, _, rfl⟩
theorem str_withini {b : List UInt8} {p : List MemPlace} (hw : Within 9 ((DataW.lit (Lit.string b) : DataW H), p)) : b.length ≤ 140737488355328 := by
  have h1 := hw b.length (by simp [DataW.weights])
  have h2 := reachBytes_lt
  omega
set_option maxRecDepth 100000 in
theorem open_item {n : Nat} {cs : List Value} {x : DataW H × List MemPlace} (h : DataW.trod enc Tryz.prog w 0 spare held n 37 cs = some x) (hw : Within 37 x) :
    ∃ o : List UInt8 × LV, cs = itemC o ∧ o.2.okAt w (fun b => b < w.heap.size) ∧ o.1.length ≤ 140737488355328 := by
  obtain ⟨ys, n', hcl, hyl, hf⟩ := open_sti (N := 3) Tryz.underlying37 h (by kernel_rfl) hw
  obtain ⟨a0, a1, a2, rfl⟩ := list3i hcl
  obtain ⟨y0, y1, rfl⟩ := list2 hyl
  obtain ⟨f0, w0⟩ := hf 0 _ _ rfl rfl
  obtain ⟨f1, w1⟩ := hf 1 _ _ rfl rfl
  have c0 : Tryz.prog.cellsOf 9 = 1 := by kernel_rfl
  have c1 : Tryz.prog.cellsOf 35 = 2 := by kernel_rfl
  replace f0 : DataW.trod enc Tryz.prog w 0 spare held n' 9 (([a0, a1, a2].drop 0).take (Tryz.prog.cellsOf 9)) = some y0 := f0
  replace f1 : DataW.trod enc Tryz.prog w 0 spare held n' 35 (([a0, a1, a2].drop 1).take (Tryz.prog.cellsOf 35)) = some y1 := f1
  rw [c0] at f0
  rw [c1] at f1
  obtain ⟨p, e, hx0, _⟩ := DataW.trod_string Tryz.underlying9 f0
  obtain ⟨o, e2, ho⟩ := open_leaf f1 w1
  obtain rfl : a0 = .string p := by simpa using e
  obtain ⟨k, xx⟩ := o
  obtain ⟨rfl, rfl⟩ : a1 = .int .i64 k ∧ a2 = .slice xx.A xx.l.length xx.c := by simpa [LV.cells] using e2
  rw [hx0] at w0
  exact ⟨(p.data.toList, ⟨k, xx⟩), rfl, ho, str_withini w0⟩
set_option maxRecDepth 100000 in
theorem open_items {n : Nat} {v : Value} {x : DataW H × List MemPlace} (h : DataW.trod enc Tryz.prog w 0 spare held n 22 [v] = some x) (hw : Within 22 x) :
    ∃ (A : Option Addr) (c : Nat) (l : List (List UInt8 × LV)), v = .slice A l.length c ∧ ItA w A l := by
  obtain ⟨A, c, l, rfl, _, _, h3, h4, h5⟩ := open_sl (w := w) (enc := enc) (spare := spare) (held := held) itemC (fun o => o.2.okAt w (fun b => b < w.heap.size) ∧ o.1.length ≤ 140737488355328) 3 48 (t := 22) (e := 37) Tryz.underlying22 (by kernel_rfl) (by kernel_rfl) (by omega) (fun n cs x hx hx2 => open_item hx hx2) h hw
  refine ⟨A, c, l, rfl, h3, h4, ?_⟩
  have := reachBytes_lt
  omega
end
end Go.Proofs.YtkeledbgmpienaaGreat

/- What trees keep while items are set, plainly; what a tree's writes leave. -/
namespace Go.Proofs.YtkeledbgmpienaaGreat
open Go.RowKit Go.Maps

theorem par_under {q : List UInt8} (h : (parT q).2 = true) : underB q (parT q).1 = true := by
  unfold parT at h ⊢
  split at h
  · rename_i hc
    rw [if_pos hc]
    simp only [Bool.and_eq_true, decide_eq_true_eq] at hc
    obtain ⟨hg, hl⟩ := hc
    have h1 : (cutL q).dropLast ≠ [] := by intro e; have := congrArg List.length e; rw [List.length_dropLast] at this; simp at this; omega
    have h2 := cut_paste (cutL q).dropLast h1 (fun y hy => cut_no q y ((List.dropLast_sublist _).subset hy))
    have hne : cutL q ≠ [] := fun e => by rw [e] at hl; simp at hl
    have h3 : preB q (pasteL (cutL q).dropLast) = true := (preB_iff _ _).2 ⟨[(cutL q).getLast hne], by simp, by rw [h2, List.dropLast_concat_getLast hne]⟩
    show underB q (pasteL (cutL q).dropLast) = true
    unfold underB
    rw [hg, good_pre hg h3, h3]; rfl
  · simp at h
theorem under_irr (p : List UInt8) : underB p p = false := by
  rcases h : underB p p with _ | _
  · rfl
  · have := (under_order (b := p) h).1
    rw [cmpT_self] at this
    omega
/-- above each path that has a leaf stands a Dir -/
def DirsOk (T : List (List UInt8 × LP)) : Prop := ∀ x ∈ T, (parT x.1).2 = true → kindL (getR T (parT x.1).1) = 2
theorem DirsOk.nil : DirsOk [] := by simp [DirsOk]
theorem DirsOk.set {T : List (List UInt8 × LP)} (h : DirsOk T) (p : List UInt8) (l : LP) : DirsOk (setS T p l) := by
  unfold setS
  split
  · rename_i hm
    unfold mayS at hm
    split at hm
    · simp at hm
    · split at hm
      · rename_i hc; exact absurd hm hc
      · split at hm
        · simp at hm
        · rename_i hb
          have hbe : l.1 ≠ 2 → ∀ x ∈ T, underB x.1 p = false := fun h2 x hx => by
            rcases hu : underB x.1 p with _ | _
            · rfl
            · refine absurd ⟨h2, ?_⟩ hb
              intro e
              have : x.1 ∈ (keysR T).filter fun q => underB q p := List.mem_filter.2 ⟨List.mem_map.2 ⟨x, hx, rfl⟩, hu⟩
              rw [e] at this
              cases this
          unfold doS
          split
          · rename_i h0
            intro x hx hp
            have hxT := (List.mem_filter.1 hx).1
            have h1 := h x hxT hp
            rw [getR_without, if_neg]
            · exact h1
            · intro e
              have h2 := par_under hp
              rw [e, hbe (by omega) x hxT] at h2
              cases h2
          · rename_i h0
            rw [if_neg h0] at hm
            split at hm
            · simp at hm
            · rename_i hk
              intro x hx hp
              unfold putR at hx
              rcases mem_ins.1 hx with rfl | hx
              · dsimp only at hp ⊢
                have h1 : kindL (getR T (parT p).1) = 2 := by
                  by_cases e : kindL (getR T (parT p).1) = 2
                  · exact e
                  · exact absurd ⟨hp, e⟩ hk
                rw [getR_put, if_neg]
                · exact h1
                · intro e
                  have h2 := par_under hp
                  rw [e, under_irr] at h2
                  cases h2
              · have hxT := (List.mem_filter.1 hx).1
                have h1 := h x hxT hp
                rw [getR_put]
                split
                · rename_i e
                  by_cases h2 : l.1 = 2
                  · show l.1 = 2
                    exact h2
                  · have h3 := par_under hp
                    rw [e, hbe h2 x hxT] at h3
                    cases h3
                · exact h1
  · exact h
/-- one item behind the other set -/
def playS (T : List (List UInt8 × LP)) (l : List (List UInt8 × LP)) : List (List UInt8 × LP) := l.foldl (fun T x => setS T x.1 x.2) T
theorem play_snoc (T l : List (List UInt8 × LP)) (x : List UInt8 × LP) : playS T (l ++ [x]) = setS (playS T l) x.1 x.2 := by simp [playS]
theorem play_ok (T l : List (List UInt8 × LP)) (h : TreeOk T) : TreeOk (playS T l) := by
  induction l generalizing T with
  | nil => exact h
  | cons x l ih => exact ih _ (h.set x.1 x.2)
theorem play_dirs (T l : List (List UInt8 × LP)) (h : DirsOk T) : DirsOk (playS T l) := by
  induction l generalizing T with
  | nil => exact h
  | cons x l ih => exact ih _ (h.set x.1 x.2)
/-- the reference's step, plainly -/
theorem plain_step (L : List (List UInt8 × LV)) (p : List UInt8) (v : LV) : plainL (if mayS (plainL L) p v.p = 0 then putI L p v else L) = setS (plainL L) p v.p := by
  unfold setS
  split
  · unfold putI doS
    show plainL (if v.k = 0 then _ else _) = if v.k = 0 then _ else _
    split
    · exact plain_without L p
    · exact plain_put L p v
  · rfl

/-- what is read at cells that are no maps does not lie in the tree's own blocks -/
theorem TreeAt.apart {w : World} {tb : Nat} {mo : Option Nat} {K : List (List UInt8 × LV)} (t : TreeAt w tb mo K) {Z : Nat → Prop} {size n : Nat} {A : Option Addr} {xs : List Value} (h : Rd w Z size A n xs) (hx : ∀ u ∈ xs, ∀ m, u ≠ .map m) : Rd w (fun b => Z b ∧ b ≠ tb ∧ mo ≠ some b) size A n xs := by
  refine ⟨h.1, fun hn => ?_⟩
  obtain ⟨b, off, e, hz, hlt, hc⟩ := h.2 hn
  refine ⟨b, off, e, ?_, hlt, hc⟩
  have h0 : 0 < xs.length := by rw [h.1]; exact hn
  have hc0 := hc 0 _ (List.getElem?_eq_getElem h0)
  have hne := hx _ (List.getElem_mem h0)
  refine ⟨hz, fun eb => ?_, fun em => ?_⟩
  · subst eb
    rw [t.blk.cell] at hc0
    rcases Nat.eq_zero_or_pos (off + 0) with h1 | h1
    · rw [h1] at hc0
      simp at hc0
      exact hne _ hc0.symm
    · rw [Array.getElem?_eq_none (by simp; omega)] at hc0; cases hc0
  · rcases t.map with ⟨e0, _⟩ | ⟨mb, e0, hm⟩
    · rw [e0] at em; cases em
    · rw [e0] at em
      injection em with em
      subst em
      obtain ⟨D, ⟨es, clock, h1, _⟩, _⟩ := hm.own
      simp [World.cell?, h1] at hc0
theorem bv_no_map (l : List UInt8) : ∀ u ∈ l.map bv, ∀ m, u ≠ .map m := by
  intro u hu m e
  obtain ⟨x, _, rfl⟩ := List.mem_map.1 hu
  simp [bv] at e
theorem item_no_map (L : List (List UInt8 × LV)) : ∀ u ∈ L.flatMap itemC, ∀ m, u ≠ .map m := by
  intro u hu m e
  obtain ⟨x, _, hx⟩ := List.mem_flatMap.1 hu
  subst e
  simp [itemC, stv] at hx
/-- rows of items stay, whatever is set on a tree -/
theorem Its.set {w w' : World} {A : Option Addr} {L K : List (List UInt8 × LV)} {tb : Nat} {mo : Option Nat} (h : Its w A L) (t : TreeAt w tb mo K) (k : Fr (fun g => g = tb ∨ mo = some g) w w') : Its w' A L := by
  refine ⟨((t.apart h.rd (item_no_map L)).fr k fun b _ hz e => ?_).mono (fun _ _ _ => trivial), fun x hx => ?_, h.len, h.txt⟩
  · exact e.elim hz.2.1 hz.2.2
  · have h1 := h.ok x hx
    exact ⟨((t.apart h1.1 (bv_no_map _)).fr k fun b _ hz e => e.elim hz.2.1 hz.2.2).mono (fun _ _ _ => trivial), h1.2⟩
theorem ItA.fr {w w' : World} {A : Option Addr} {L : List (List UInt8 × LV)} {S : Nat → Prop} (h : ItA w A L) (k : Fr S w w') (hS : ∀ b, b < w.heap.size → ¬ S b) : ItA w' A L := by
  refine ⟨(h.rd.fr k fun b hb _ => hS b hb).mono (fun b hb _ => hb), fun x hx => ?_, h.len⟩
  have h1 := h.ok x hx
  exact ⟨⟨(h1.1.x.fr k fun b hb _ => hS b hb).mono (fun b hb _ => hb), h1.1.len, h1.1.k⟩, h1.2⟩
theorem ItA.below {w w' : World} {A : Option Addr} {L : List (List UInt8 × LV)} (h : ItA w A L) (k : Below w.heap.size w w') : ItA w' A L := h.fr (Fr.of_below k (fun _ => False)) (fun _ _ h => h)
theorem ItA.at_ {w : World} {A : Option Addr} {L : List (List UInt8 × LV)} {i : Nat} (h : ItA w A L) (hi : i < L.length) :
    ∃ b off, A = some ⟨b, off, none⟩ ∧ b < w.heap.size ∧ w.cell? ⟨b, off + i * 3, none⟩ = some (stv L[i].1) ∧ w.cell? ⟨b, off + i * 3 + 1, none⟩ = some (.int .i64 L[i].2.k) ∧ w.cell? ⟨b, off + i * 3 + 2, none⟩ = some (.slice L[i].2.x.A L[i].2.x.l.length L[i].2.x.c) := by
  obtain ⟨b, off, hA, _, hb, hc⟩ := h.rd.2 (by omega)
  have hg : ∀ j, j < 3 → (L.flatMap itemC)[i * 3 + j]? = (itemC L[i])[j]? := fun j hj => flat_get (k := 3) item_len L i j hi hj
  refine ⟨b, off, hA, hb, hc _ _ (hg 0 (by omega)), ?_, ?_⟩
  · rw [Nat.add_assoc]; exact hc _ _ (hg 1 (by omega))
  · rw [Nat.add_assoc]; exact hc _ _ (hg 2 (by omega))
end Go.Proofs.YtkeledbgmpienaaGreat

/- tree.New. -/
namespace Go.Proofs.YtkeledbgmpienaaGreat
open Go.RowKit Go.Maps

theorem treeNew_nil (w : World) :
    Calls Tryz.prog 17 #[.slice none 0 0] w fun e w' => e = .returned (.tuple #[.pointer (some ⟨w.heap.size, 0, none⟩), .int .i64 0]) ∧ TreeAt w' w.heap.size none [] ∧ Below w.heap.size w w' := by
  go_enter Tryz.func17, Tryz.ntmps17
  go_wp2_with fail
  go_loopw [12] (fun iv wr => iv = .int .i64 0 ∧ wr = w.alloc (.cells #[.map none] 84)) (fun _ _ => 0)
  case atStart => exact ⟨rfl, rfl⟩
  case round =>
    obtain ⟨rfl, rfl⟩ := hrel
    go_wp2_with fail
    go_ret2
    exact ⟨rfl, TreeAt.new _, (by repeat (first | exact Below.refl _ _ | refine Below.alloc ?_ (by simp) _ | refine Below.setCell ?_ (by simp) _ | refine Below.drew ?_))⟩
end Go.Proofs.YtkeledbgmpienaaGreat
