/- WatchStays is true for every input: between two of its turns a path has what it had at the first of them. No condition beyond the row's own. -/
import Derived.Test.YtdnljmncdbcgeaaA11
import Derived.ChangeMaps5

namespace Go.Proofs.Ytdnljmncdbcgeaa
open Go.RowKit Go.Maps

theorem lightW_all {l : List SV} (h : lightW l = true) : l.length ≤ 60 ∧ ∀ s ∈ l, s.x.1.length ≤ 200 ∧ s.x.2.x.l.length ≤ 20000 := by
  unfold lightW at h
  rw [Bool.and_eq_true, decide_eq_true_eq] at h
  exact ⟨h.2, fun s hs => (lightI_len h.1).2 s.x (List.mem_map.2 ⟨s, hs, rfl⟩)⟩
/-- did another thing come at this moment? -/
def cameS (H : List (List (List UInt8 × LP))) (p : List UInt8) (m : Nat) : Bool := !(atS H p (m : Int) == atS H p ((m : Int) - 1))
/-- so many turns are ahead of a moment -/
def aheadS (H : List (List (List UInt8 × LP))) (p : List UInt8) (m : Nat) : Nat := ((List.range m).filter (cameS H p)).length
theorem turned_came {H : List (List (List UInt8 × LP))} {p : List UInt8} {m : Nat} (h : m < H.length) : turnedG ((0, []) : LP) (H.map fun T => at0 T p) m = cameS H p m := by
  unfold turnedG cameS
  rw [atS_nat h]
  congr 1
  have h1 : (H.map fun T => at0 T p)[m]? = some (at0 (H[m]?.getD []) p) := by
    rw [List.getElem?_map, List.getElem?_eq_getElem h]; rfl
  have h2 : (if m = 0 then ((0, []) : LP) else (H.map fun T => at0 T p)[m - 1]?.getD (0, [])) = atS H p ((m : Int) - 1) := by
    by_cases e : m = 0
    · subst e
      rw [if_pos rfl]
      unfold atS
      rw [if_neg (by omega)]
    · rw [if_neg e, show ((m : Int) - 1) = ((m - 1 : Nat) : Int) by omega, atS_nat (by omega), List.getElem?_map]
      rw [List.getElem?_eq_getElem (by omega)]
      rfl
  rw [h1, h2]
  by_cases e : at0 (H[m]?.getD []) p = atS H p ((m : Int) - 1)
  · rw [e]; simp
  · rw [decide_eq_false (fun e2 => e (Option.some.inj e2))]
    symm
    simpa using e
theorem turns_came (H : List (List (List UInt8 × LP))) (p : List UInt8) : (turnsG 0 ((0, []) : LP) (H.map fun T => at0 T p)).map (·.1) = (List.range H.length).filter (cameS H p) := by
  have h := turns_at (H.map fun T => at0 T p) 0 ((0, []) : LP)
  rw [List.length_map] at h
  rw [h]
  have e : (fun (x : Nat) => x + 0) = id := rfl
  rw [e, List.map_id]
  exact List.filter_congr (fun m hm => turned_came (List.mem_range.1 hm))
theorem ahead_step (H : List (List (List UInt8 × LP))) (p : List UInt8) (m : Nat) : aheadS H p (m + 1) = aheadS H p m + (if cameS H p m = true then 1 else 0) := by
  unfold aheadS
  rw [List.range_succ, List.filter_append, List.length_append, List.filter_cons]
  split <;> simp
theorem ahead_le (H : List (List (List UInt8 × LP))) (p : List UInt8) : ∀ (d m : Nat), aheadS H p m ≤ aheadS H p (m + d)
  | 0, _ => Nat.le_refl _
  | d + 1, m => by
    have := ahead_le H p d m
    have h2 := ahead_step H p (m + d)
    rw [show m + (d + 1) = m + d + 1 by omega]
    split at h2 <;> omega
/-- the turn at hand is this moment's, just if something came -/
theorem turn_get {H : List (List (List UInt8 × LP))} {p : List UInt8} {G : List Nat} (hG : G = (List.range H.length).filter (cameS H p)) {m : Nat} (hm : m < H.length) :
    (cameS H p m = true → G[aheadS H p m]? = some m) ∧ (cameS H p m = false → ∀ t, G[aheadS H p m]? = some t → t ≠ m) := by
  obtain ⟨d, hd⟩ : ∃ d, H.length = m + (1 + d) := ⟨H.length - (m + 1), by omega⟩
  have hs : List.range H.length = List.range m ++ m :: (List.range' (m + 1) d) := by
    rw [hd, List.range_eq_range', List.range_eq_range', ← List.range'_append_1, ← List.range'_append_1]
    simp
  have hg : G = (List.range m).filter (cameS H p) ++ (m :: (List.range' (m + 1) d)).filter (cameS H p) := by
    rw [hG, hs, List.filter_append]
  have hget : G[aheadS H p m]? = ((m :: (List.range' (m + 1) d)).filter (cameS H p))[0]? := by
    show G[((List.range m).filter (cameS H p)).length]? = _
    rw [hg, List.getElem?_append_right (Nat.le_refl _), Nat.sub_self]
  rw [hget]
  constructor
  · intro h
    rw [List.filter_cons, if_pos h]
    rfl
  · intro h t ht
    rw [List.filter_cons, if_neg (by rw [h]; decide)] at ht
    have h1 := List.mem_of_getElem? ht
    have h2 := (List.mem_filter.1 h1).1
    rw [List.mem_range'_1] at h2
    omega
theorem ahead_len {H : List (List (List UInt8 × LP))} {p : List UInt8} {G : List Nat} (hG : G = (List.range H.length).filter (cameS H p)) : G.length = aheadS H p H.length := by rw [hG]; rfl

set_option maxRecDepth 100000 in
set_option maxHeartbeats 2000000 in
theorem watchStays_any (A : Option Addr) (c : Nat) (l : List SV) (p : List UInt8) (side : Int) (w : World) (h : StA w A l) (hp : p.length ≤ 140737488355328) :
    Calls Try.prog 8 #[.slice A l.length c, .string ⟨⟨p⟩⟩, .int .i64 side] w fun e w' => e = .returned (.bool true) ∧ Below w.heap.size w w' := by
  have HA := Lib.hid h
  have HL := Lib.hid (lightW_any A c l w h)
  clear h
  rcases hli : lightW l with _ | _
  · rw [hli] at HL
    go_enter Try.func8, Try.ntmps8
    go_wp2_with fail
    refine HL.out.mono ?_
    rintro e w1 ⟨rfl, hw1⟩
    go_wp2_with fail
    refine (lives42_any _).mono ?_
    rintro e w9 ⟨rfl, hb9⟩
    go_wp2_with fail
    go_ret
    exact ⟨rfl, hw1.trans (hb9.mono hw1.size)⟩
  · rw [hli] at HL
    have hla := lightW_all hli
    clear hli
    by_cases hpl : 200 < (p.length : Int)
    · have hd : decide (200 < (p.length : Int)) = true := decide_eq_true hpl
      go_enter Try.func8, Try.ntmps8
      go_wp2_with fail
      refine HL.out.mono ?_
      rintro e w1 ⟨rfl, hw1⟩
      go_wp2_with fail
      refine (lives42_any _).mono ?_
      rintro e w9 ⟨rfl, hb9⟩
      go_wp2_with fail
      go_ret
      exact ⟨rfl, hw1.trans (hb9.mono hw1.size)⟩
    · have hd : decide (200 < (p.length : Int)) = false := decide_eq_false hpl
      by_cases hsd : side = 1 ∨ side = 2
      · have HML := Lib.hid (fun W (hW : Below w.heap.size w W) => made_any A c l W (HA.out.below hW) hla)
        have hln : l.length ≤ 60 := hla.1
        rcases hsd with rfl | rfl
        · clear hla
          go_enter Try.func8, Try.ntmps8
          go_wp2_with fail
          refine HL.out.mono ?_
          rintro e w1 ⟨rfl, hw1⟩
          go_wp2_with fail
          refine (HML.out w1 hw1).mono ?_
          rintro e w2 ⟨gb, col, WA, wc, MS, rfl, hmd, hb2⟩
          have hw2 := hw1.trans (hb2.mono hw1.size)
          have HMD := Lib.hid hmd
          obtain ⟨S, hS⟩ : ∃ S, S = sideS ((momS l).map (·.1)) ((momS l).map (·.2)) 1 := ⟨_, rfl⟩
          have HS := Lib.hid hS
          have hHl : ((momS l).map (·.1)).length ≤ 300 := by rw [List.length_map, mom_len]; omega
          have HSL : Hid (S.length = l.length) := Lib.hid (by rw [hS, log_len hmd.log (which := 1) (.inl rfl), List.length_map, mom_len])
          clear HML HL
          go_wp2_with fail
          refine (turns_any col gb _ _ 1 p w2 hmd.log (by omega) hHl).mono ?_
          rintro e w3 ⟨⟨GA, gc, G, rfl, hG, hrow⟩, hb3⟩
          have HG : Hid (G = (List.range S.length).filter (cameS S p)) := Lib.hid (by rw [hG.out, turns_came, hS])
          have hGl : G.length ≤ 60 := by
            have h1 := List.length_filter_le (cameS S p) (List.range S.length)
            rw [← HG.out, List.length_range, HSL.out] at h1
            omega
          have HGL : Hid (G.length = aheadS S p l.length) := Lib.hid (by rw [← HSL.out]; exact ahead_len HG.out)
          have HR := Lib.hid hrow
          have hw3 := hw2.trans (hb3.mono hw2.size)
          clear hmd hS hG hrow
          go_wp2_with fail
          go_loopw [11, 12, 13, 45] (fun nv _ _ iv wr => ∃ m : Nat, m ≤ l.length ∧ iv = .int .i64 (m : Int) ∧ nv = .int .i64 (aheadS S p m : Int) ∧ Below w3.heap.size w3 wr) (fun _ _ _ iv _ => l.length - (intOf iv).toNat)
          case atStart => exact ⟨0, Nat.zero_le _, rfl, rfl, Below.refl _ _⟩
          case round =>
            obtain ⟨m, hm, rfl, rfl, hb3r⟩ := hrel
            have hbm : Below w2.heap.size w2 wr := hb3.trans (hb3r.mono hb3.size)
            have HAL : Hid (aheadS S p m ≤ G.length) := Lib.hid (by
              rw [HGL.out]
              have := ahead_le S p (l.length - m) m
              rwa [show m + (l.length - m) = l.length by omega] at this)
            by_cases hlt : m < l.length
            · have htg := turn_get HG.out (m := m) (by rw [HSL.out]; exact hlt)
              have HTG := Lib.hid htg
              clear htg
              have hal : aheadS S p m ≤ 60 := by have := HAL.out; omega
              obtain ⟨nx, hnx⟩ : ∃ nx, nx = aheadS S p m := ⟨_, rfl⟩
              rcases hc : cameS S p m with _ | _
              · have HC := Lib.hid hc
                have hnt := HTG.out.2 hc
                clear hc
                by_cases hg : aheadS S p m < G.length
                · have ht := hnt _ (List.getElem?_eq_getElem hg)
                  obtain ⟨b, off, rfl, hz, hbb, hcell⟩ := (HR.out.below hb3r).rd.atm (f := fun (n : Nat) => Value.int .i64 (n : Int)) (l := G) (k := aheadS S p m) hg
                  have htb : ((G[aheadS S p m] : Int) == (m : Int)) = false := by simpa using fun e => ht (by omega)
                  have hgd : decide ((aheadS S p m : Int) < (G.length : Int)) = true := decide_eq_true (by omega)
                  generalize G[aheadS S p m] = tv at *
                  go_wp2_with fail
                  refine (logAt_any col gb _ _ 1 p (m : Int) wr (HMD.out.log.below hbm) (by omega) hHl).mono ?_
                  rintro e w5 ⟨⟨k5, A5, c5, l5, rfl, hx5, ho5, hl5⟩, hb5⟩
                  have hr5 := hb3r.trans (hb5.mono hb3r.size)
                  have hbm5 := hbm.trans (hb5.mono hbm.size)
                  go_wp2_with fail
                  refine (logAt_any col gb _ _ 1 p ((m : Int) - 1) w5 (HMD.out.log.below hbm5) (by omega) hHl).mono ?_
                  rintro e w6 ⟨⟨k6, A6, c6, l6, rfl, hx6, ho6, hl6⟩, hb6⟩
                  have hr6 := hr5.trans (hb6.mono hr5.size)
                  have ho5' := OwB.below ho5 hb6
                  have hsm : (k5 == k6 && l5 == l6) = true := by
                    have h1 : cameS S p m = false := HC.out
                    unfold cameS at h1
                    rw [HS.out, ← hx5.out, ← hx6.out] at h1
                    show (((k5, l5) : LP) == (k6, l6)) = _
                    revert h1
                    cases (((k5, l5) : LP) == (k6, l6)) <;> simp
                  have HSM := Lib.hid (leafSameR_any k5 k6 A5 A6 c5 c6 l5 l6 _ _ w6 ho5'.rd ho6.rd)
                  rw [hsm] at HSM
                  clear hsm hx5 hx6 ho5 ho6 ho5' hl5 hl6
                  go_wp2_with fail
                  refine HSM.out.mono ?_
                  rintro e w7 ⟨rfl, hb7⟩
                  have hr7 := hr6.trans (hb7.mono hr6.size)
                  have HNX : Hid (aheadS S p (m + 1) = aheadS S p m) := Lib.hid (by rw [ahead_step, HC.out]; rfl)
                  clear HSM
                  go_wp2_with fail
                  go_roundw
                  case rel => exact ⟨m + 1, hlt, by go_num, (by first | (rw [HNX.out]; done) | (rw [HNX.out]; push_cast; done) | (rw [HNX.out]; push_cast; rfl)), hr7⟩
                  case measure => simp [intOf]; omega
                · have hgd : decide ((aheadS S p m : Int) < (G.length : Int)) = false := decide_eq_false (by omega)
                  go_wp2_with fail
                  refine (logAt_any col gb _ _ 1 p (m : Int) wr (HMD.out.log.below hbm) (by omega) hHl).mono ?_
                  rintro e w5 ⟨⟨k5, A5, c5, l5, rfl, hx5, ho5, hl5⟩, hb5⟩
                  have hr5 := hb3r.trans (hb5.mono hb3r.size)
                  have hbm5 := hbm.trans (hb5.mono hbm.size)
                  go_wp2_with fail
                  refine (logAt_any col gb _ _ 1 p ((m : Int) - 1) w5 (HMD.out.log.below hbm5) (by omega) hHl).mono ?_
                  rintro e w6 ⟨⟨k6, A6, c6, l6, rfl, hx6, ho6, hl6⟩, hb6⟩
                  have hr6 := hr5.trans (hb6.mono hr5.size)
                  have ho5' := OwB.below ho5 hb6
                  have hsm : (k5 == k6 && l5 == l6) = true := by
                    have h1 : cameS S p m = false := HC.out
                    unfold cameS at h1
                    rw [HS.out, ← hx5.out, ← hx6.out] at h1
                    show (((k5, l5) : LP) == (k6, l6)) = _
                    revert h1
                    cases (((k5, l5) : LP) == (k6, l6)) <;> simp
                  have HSM := Lib.hid (leafSameR_any k5 k6 A5 A6 c5 c6 l5 l6 _ _ w6 ho5'.rd ho6.rd)
                  rw [hsm] at HSM
                  clear hsm hx5 hx6 ho5 ho6 ho5' hl5 hl6
                  go_wp2_with fail
                  refine HSM.out.mono ?_
                  rintro e w7 ⟨rfl, hb7⟩
                  have hr7 := hr6.trans (hb7.mono hr6.size)
                  have HNX : Hid (aheadS S p (m + 1) = aheadS S p m) := Lib.hid (by rw [ahead_step, HC.out]; rfl)
                  clear HSM
                  go_wp2_with fail
                  go_roundw
                  case rel => exact ⟨m + 1, hlt, by go_num, (by first | (rw [HNX.out]; done) | (rw [HNX.out]; push_cast; done) | (rw [HNX.out]; push_cast; rfl)), hr7⟩
                  case measure => simp [intOf]; omega
              · have HC := Lib.hid hc
                have hnt := HTG.out.1 hc
                clear hc
                obtain ⟨hg, hge⟩ := List.getElem?_eq_some_iff.1 hnt
                obtain ⟨b, off, rfl, hz, hbb, hcell⟩ := (HR.out.below hb3r).rd.atm (f := fun (n : Nat) => Value.int .i64 (n : Int)) (l := G) (k := aheadS S p m) hg
                rw [hge] at hcell
                have htb : ((m : Int) == (m : Int)) = true := by simp
                have hgd : decide ((aheadS S p m : Int) < (G.length : Int)) = true := decide_eq_true (by omega)
                clear hge hnt
                go_wp2_with fail
                refine (logAt_any col gb _ _ 1 p (m : Int) wr (HMD.out.log.below hbm) (by omega) hHl).mono ?_
                rintro e w5 ⟨⟨k5, A5, c5, l5, rfl, hx5, ho5, hl5⟩, hb5⟩
                have hr5 := hb3r.trans (hb5.mono hb3r.size)
                have hbm5 := hbm.trans (hb5.mono hbm.size)
                go_wp2_with fail
                refine (logAt_any col gb _ _ 1 p ((m : Int) - 1) w5 (HMD.out.log.below hbm5) (by omega) hHl).mono ?_
                rintro e w6 ⟨⟨k6, A6, c6, l6, rfl, hx6, ho6, hl6⟩, hb6⟩
                have hr6 := hr5.trans (hb6.mono hr5.size)
                have ho5' := OwB.below ho5 hb6
                have hsm : (k5 == k6 && l5 == l6) = false := by
                  have h1 : cameS S p m = true := HC.out
                  unfold cameS at h1
                  rw [HS.out, ← hx5.out, ← hx6.out] at h1
                  show (((k5, l5) : LP) == (k6, l6)) = _
                  revert h1
                  cases (((k5, l5) : LP) == (k6, l6)) <;> simp
                have HSM := Lib.hid (leafSameR_any k5 k6 A5 A6 c5 c6 l5 l6 _ _ w6 ho5'.rd ho6.rd)
                rw [hsm] at HSM
                clear hsm hx5 hx6 ho5 ho6 ho5' hl5 hl6
                go_wp2_with fail
                refine HSM.out.mono ?_
                rintro e w7 ⟨rfl, hb7⟩
                have hr7 := hr6.trans (hb7.mono hr6.size)
                have HNX : Hid (aheadS S p (m + 1) = aheadS S p m + 1) := Lib.hid (by rw [ahead_step, HC.out]; rfl)
                clear HSM
                go_wp2_with fail
                go_roundw
                case rel => exact ⟨m + 1, hlt, by go_num, (by first | (rw [HNX.out]; done) | (rw [HNX.out]; push_cast; done) | (rw [HNX.out]; push_cast; rfl)), hr7⟩
                case measure => simp [intOf]; omega
            · have e : m = l.length := by omega
              subst e
              have hgl : ((aheadS S p l.length : Int) == (G.length : Int)) = true := by rw [HGL.out]; simp
              have hwr := hw3.trans (hb3r.mono hw3.size)
              go_wp2_with fail
              refine (lives42_any _).mono ?_
              rintro e w9 ⟨rfl, hb9⟩
              go_wp2_with fail
              go_ret
              exact ⟨rfl, hwr.trans (hb9.mono hwr.size)⟩
        · clear hla
          go_enter Try.func8, Try.ntmps8
          go_wp2_with fail
          refine HL.out.mono ?_
          rintro e w1 ⟨rfl, hw1⟩
          go_wp2_with fail
          refine (HML.out w1 hw1).mono ?_
          rintro e w2 ⟨gb, col, WA, wc, MS, rfl, hmd, hb2⟩
          have hw2 := hw1.trans (hb2.mono hw1.size)
          have HMD := Lib.hid hmd
          obtain ⟨S, hS⟩ : ∃ S, S = sideS ((momS l).map (·.1)) ((momS l).map (·.2)) 2 := ⟨_, rfl⟩
          have HS := Lib.hid hS
          have hHl : ((momS l).map (·.1)).length ≤ 300 := by rw [List.length_map, mom_len]; omega
          have HSL : Hid (S.length = l.length) := Lib.hid (by rw [hS, log_len hmd.log (which := 2) (.inr rfl), List.length_map, mom_len])
          clear HML HL
          go_wp2_with fail
          refine (turns_any col gb _ _ 2 p w2 hmd.log (by omega) hHl).mono ?_
          rintro e w3 ⟨⟨GA, gc, G, rfl, hG, hrow⟩, hb3⟩
          have HG : Hid (G = (List.range S.length).filter (cameS S p)) := Lib.hid (by rw [hG.out, turns_came, hS])
          have hGl : G.length ≤ 60 := by
            have h1 := List.length_filter_le (cameS S p) (List.range S.length)
            rw [← HG.out, List.length_range, HSL.out] at h1
            omega
          have HGL : Hid (G.length = aheadS S p l.length) := Lib.hid (by rw [← HSL.out]; exact ahead_len HG.out)
          have HR := Lib.hid hrow
          have hw3 := hw2.trans (hb3.mono hw2.size)
          clear hmd hS hG hrow
          go_wp2_with fail
          go_loopw [11, 12, 13, 45] (fun nv _ _ iv wr => ∃ m : Nat, m ≤ l.length ∧ iv = .int .i64 (m : Int) ∧ nv = .int .i64 (aheadS S p m : Int) ∧ Below w3.heap.size w3 wr) (fun _ _ _ iv _ => l.length - (intOf iv).toNat)
          case atStart => exact ⟨0, Nat.zero_le _, rfl, rfl, Below.refl _ _⟩
          case round =>
            obtain ⟨m, hm, rfl, rfl, hb3r⟩ := hrel
            have hbm : Below w2.heap.size w2 wr := hb3.trans (hb3r.mono hb3.size)
            have HAL : Hid (aheadS S p m ≤ G.length) := Lib.hid (by
              rw [HGL.out]
              have := ahead_le S p (l.length - m) m
              rwa [show m + (l.length - m) = l.length by omega] at this)
            by_cases hlt : m < l.length
            · have htg := turn_get HG.out (m := m) (by rw [HSL.out]; exact hlt)
              have HTG := Lib.hid htg
              clear htg
              have hal : aheadS S p m ≤ 60 := by have := HAL.out; omega
              obtain ⟨nx, hnx⟩ : ∃ nx, nx = aheadS S p m := ⟨_, rfl⟩
              rcases hc : cameS S p m with _ | _
              · have HC := Lib.hid hc
                have hnt := HTG.out.2 hc
                clear hc
                by_cases hg : aheadS S p m < G.length
                · have ht := hnt _ (List.getElem?_eq_getElem hg)
                  obtain ⟨b, off, rfl, hz, hbb, hcell⟩ := (HR.out.below hb3r).rd.atm (f := fun (n : Nat) => Value.int .i64 (n : Int)) (l := G) (k := aheadS S p m) hg
                  have htb : ((G[aheadS S p m] : Int) == (m : Int)) = false := by simpa using fun e => ht (by omega)
                  have hgd : decide ((aheadS S p m : Int) < (G.length : Int)) = true := decide_eq_true (by omega)
                  generalize G[aheadS S p m] = tv at *
                  go_wp2_with fail
                  refine (logAt_any col gb _ _ 2 p (m : Int) wr (HMD.out.log.below hbm) (by omega) hHl).mono ?_
                  rintro e w5 ⟨⟨k5, A5, c5, l5, rfl, hx5, ho5, hl5⟩, hb5⟩
                  have hr5 := hb3r.trans (hb5.mono hb3r.size)
                  have hbm5 := hbm.trans (hb5.mono hbm.size)
                  go_wp2_with fail
                  refine (logAt_any col gb _ _ 2 p ((m : Int) - 1) w5 (HMD.out.log.below hbm5) (by omega) hHl).mono ?_
                  rintro e w6 ⟨⟨k6, A6, c6, l6, rfl, hx6, ho6, hl6⟩, hb6⟩
                  have hr6 := hr5.trans (hb6.mono hr5.size)
                  have ho5' := OwB.below ho5 hb6
                  have hsm : (k5 == k6 && l5 == l6) = true := by
                    have h1 : cameS S p m = false := HC.out
                    unfold cameS at h1
                    rw [HS.out, ← hx5.out, ← hx6.out] at h1
                    show (((k5, l5) : LP) == (k6, l6)) = _
                    revert h1
                    cases (((k5, l5) : LP) == (k6, l6)) <;> simp
                  have HSM := Lib.hid (leafSameR_any k5 k6 A5 A6 c5 c6 l5 l6 _ _ w6 ho5'.rd ho6.rd)
                  rw [hsm] at HSM
                  clear hsm hx5 hx6 ho5 ho6 ho5' hl5 hl6
                  go_wp2_with fail
                  refine HSM.out.mono ?_
                  rintro e w7 ⟨rfl, hb7⟩
                  have hr7 := hr6.trans (hb7.mono hr6.size)
                  have HNX : Hid (aheadS S p (m + 1) = aheadS S p m) := Lib.hid (by rw [ahead_step, HC.out]; rfl)
                  clear HSM
                  go_wp2_with fail
                  go_roundw
                  case rel => exact ⟨m + 1, hlt, by go_num, (by first | (rw [HNX.out]; done) | (rw [HNX.out]; push_cast; done) | (rw [HNX.out]; push_cast; rfl)), hr7⟩
                  case measure => simp [intOf]; omega
                · have hgd : decide ((aheadS S p m : Int) < (G.length : Int)) = false := decide_eq_false (by omega)
                  go_wp2_with fail
                  refine (logAt_any col gb _ _ 2 p (m : Int) wr (HMD.out.log.below hbm) (by omega) hHl).mono ?_
                  rintro e w5 ⟨⟨k5, A5, c5, l5, rfl, hx5, ho5, hl5⟩, hb5⟩
                  have hr5 := hb3r.trans (hb5.mono hb3r.size)
                  have hbm5 := hbm.trans (hb5.mono hbm.size)
                  go_wp2_with fail
                  refine (logAt_any col gb _ _ 2 p ((m : Int) - 1) w5 (HMD.out.log.below hbm5) (by omega) hHl).mono ?_
                  rintro e w6 ⟨⟨k6, A6, c6, l6, rfl, hx6, ho6, hl6⟩, hb6⟩
                  have hr6 := hr5.trans (hb6.mono hr5.size)
                  have ho5' := OwB.below ho5 hb6
                  have hsm : (k5 == k6 && l5 == l6) = true := by
                    have h1 : cameS S p m = false := HC.out
                    unfold cameS at h1
                    rw [HS.out, ← hx5.out, ← hx6.out] at h1
                    show (((k5, l5) : LP) == (k6, l6)) = _
                    revert h1
                    cases (((k5, l5) : LP) == (k6, l6)) <;> simp
                  have HSM := Lib.hid (leafSameR_any k5 k6 A5 A6 c5 c6 l5 l6 _ _ w6 ho5'.rd ho6.rd)
                  rw [hsm] at HSM
                  clear hsm hx5 hx6 ho5 ho6 ho5' hl5 hl6
                  go_wp2_with fail
                  refine HSM.out.mono ?_
                  rintro e w7 ⟨rfl, hb7⟩
                  have hr7 := hr6.trans (hb7.mono hr6.size)
                  have HNX : Hid (aheadS S p (m + 1) = aheadS S p m) := Lib.hid (by rw [ahead_step, HC.out]; rfl)
                  clear HSM
                  go_wp2_with fail
                  go_roundw
                  case rel => exact ⟨m + 1, hlt, by go_num, (by first | (rw [HNX.out]; done) | (rw [HNX.out]; push_cast; done) | (rw [HNX.out]; push_cast; rfl)), hr7⟩
                  case measure => simp [intOf]; omega
              · have HC := Lib.hid hc
                have hnt := HTG.out.1 hc
                clear hc
                obtain ⟨hg, hge⟩ := List.getElem?_eq_some_iff.1 hnt
                obtain ⟨b, off, rfl, hz, hbb, hcell⟩ := (HR.out.below hb3r).rd.atm (f := fun (n : Nat) => Value.int .i64 (n : Int)) (l := G) (k := aheadS S p m) hg
                rw [hge] at hcell
                have htb : ((m : Int) == (m : Int)) = true := by simp
                have hgd : decide ((aheadS S p m : Int) < (G.length : Int)) = true := decide_eq_true (by omega)
                clear hge hnt
                go_wp2_with fail
                refine (logAt_any col gb _ _ 2 p (m : Int) wr (HMD.out.log.below hbm) (by omega) hHl).mono ?_
                rintro e w5 ⟨⟨k5, A5, c5, l5, rfl, hx5, ho5, hl5⟩, hb5⟩
                have hr5 := hb3r.trans (hb5.mono hb3r.size)
                have hbm5 := hbm.trans (hb5.mono hbm.size)
                go_wp2_with fail
                refine (logAt_any col gb _ _ 2 p ((m : Int) - 1) w5 (HMD.out.log.below hbm5) (by omega) hHl).mono ?_
                rintro e w6 ⟨⟨k6, A6, c6, l6, rfl, hx6, ho6, hl6⟩, hb6⟩
                have hr6 := hr5.trans (hb6.mono hr5.size)
                have ho5' := OwB.below ho5 hb6
                have hsm : (k5 == k6 && l5 == l6) = false := by
                  have h1 : cameS S p m = true := HC.out
                  unfold cameS at h1
                  rw [HS.out, ← hx5.out, ← hx6.out] at h1
                  show (((k5, l5) : LP) == (k6, l6)) = _
                  revert h1
                  cases (((k5, l5) : LP) == (k6, l6)) <;> simp
                have HSM := Lib.hid (leafSameR_any k5 k6 A5 A6 c5 c6 l5 l6 _ _ w6 ho5'.rd ho6.rd)
                rw [hsm] at HSM
                clear hsm hx5 hx6 ho5 ho6 ho5' hl5 hl6
                go_wp2_with fail
                refine HSM.out.mono ?_
                rintro e w7 ⟨rfl, hb7⟩
                have hr7 := hr6.trans (hb7.mono hr6.size)
                have HNX : Hid (aheadS S p (m + 1) = aheadS S p m + 1) := Lib.hid (by rw [ahead_step, HC.out]; rfl)
                clear HSM
                go_wp2_with fail
                go_roundw
                case rel => exact ⟨m + 1, hlt, by go_num, (by first | (rw [HNX.out]; done) | (rw [HNX.out]; push_cast; done) | (rw [HNX.out]; push_cast; rfl)), hr7⟩
                case measure => simp [intOf]; omega
            · have e : m = l.length := by omega
              subst e
              have hgl : ((aheadS S p l.length : Int) == (G.length : Int)) = true := by rw [HGL.out]; simp
              have hwr := hw3.trans (hb3r.mono hw3.size)
              go_wp2_with fail
              refine (lives42_any _).mono ?_
              rintro e w9 ⟨rfl, hb9⟩
              go_wp2_with fail
              go_ret
              exact ⟨rfl, hwr.trans (hb9.mono hwr.size)⟩
      · have hd1 : (side != 1) = true := by simpa using (fun e => hsd (.inl e))
        have hd2 : (side != 2) = true := by simpa using (fun e => hsd (.inr e))
        go_enter Try.func8, Try.ntmps8
        go_wp2_with fail
        refine HL.out.mono ?_
        rintro e w1 ⟨rfl, hw1⟩
        go_wp2_with fail
        refine (lives42_any _).mono ?_
        rintro e w9 ⟨rfl, hb9⟩
        go_wp2_with fail
        go_ret
        exact ⟨rfl, hw1.trans (hb9.mono hw1.size)⟩

end Go.Proofs.Ytdnljmncdbcgeaa

/- Arguments opened: strings. -/
namespace Go.Proofs.Ytdnljmncdbcgeaa
open Go.RowKit Go.WideShapes Go.ChangeShapes Go.ChangeAt Go.ChangeMaps

section
variable {H : Type} {enc : TypeId × Value → H} {w : World} {spare : Nat → Bool} {held : Bool}
set_option maxRecDepth 100000 in
/-- a string -/
theorem open_str {r : Reach} {b0 : Nat} {v : Value} {d : DataW H} {p : List MemPlace} (hv : Value.okWide Try.prog w r b0 9 v) (h : DataW.Trod enc Try.prog w 0 spare held 9 v d p) (hw : Within 9 (d, p)) :
    ∃ s : ByteArray, v = .string s ∧ s.size ≤ 140737488355328 := by
  obtain ⟨s, rfl, hd, _, _⟩ := open_string Try.underlying9 hv h
  refine ⟨s, rfl, ?_⟩
  have h1 := hw s.data.toList.length (by rw [hd]; simp [DataW.weights])
  have h2 := reachBytes_lt
  have h3 : s.data.toList.length = s.size := tl_len s
  omega
end

end Go.Proofs.Ytdnljmncdbcgeaa
