/- name.Ups, tenderref03.Ups, Same. -/
import Derived.Test.YtffimpjjdhnajaaNameUpsFns
namespace Go.Proofs.Ytffimpjjdhnajaa
open Go.RowKit

set_option maxRecDepth 100000 in
set_option maxHeartbeats 1000000 in
theorem ups_any (s : ByteArray) (hs : s.size ≤ 1048576) (w : World) : Calls Try.prog 22 #[.string s] w fun e w' => ∃ A c l, e = .returned (.slice A l.length c) ∧ Hid (l = upsL (tl s)) ∧ Sts w' w.heap.size A c l ∧ Below w.heap.size w w' := by
  cases hg : goodB (tl s)
  · have HM : Hid (([] : List (List UInt8)) = upsL (tl s)) := by show _ = _; unfold upsL; rw [hg]; rfl
    have HC := Lib.hid (check_no s (by omega) hg)
    clear hg
    go_enter Try.func22, Try.ntmps22
    go_wp2_with fail
    refine (HC.out _).mono ?_
    rintro e w1 ⟨rfl, hb⟩
    go_wp2_with fail
    go_ret
    exact ⟨none, 0, [], rfl, HM, Row.none_ _ _ _ _, hb⟩
  · have HM : Hid (upsL (tl s) = upsTo (tl s) ((cutL (tl s)).length - 1)) := by show _ = _; unfold upsL upsTo; rw [hg]; rfl
    have HC := Lib.hid (check_yes s (by omega) hg)
    have hs96 := goodB_len hg
    rw [tl_len] at hs96
    clear hg
    obtain ⟨i0, hi0, hz0, hz1, hz2⟩ := info_parts str_info
    go_enter Try.func22, Try.ntmps22
    go_wp2_with fail
    refine (HC.out _).mono ?_
    rintro e w1 ⟨rfl, hb⟩
    go_wp2_with fail
    go_loopw [2, 9] (fun ov iv wr => ∃ (i k : Nat) (A : Option Addr) (c : Nat) (l : List (List UInt8)), i ≤ s.size ∧ iv = .int .i64 (i : Int) ∧ ov = .slice A l.length c ∧ l.length ≤ i ∧ Hid (l = upsTo (tl s) k) ∧ Hid ((cutL ((tl s).take i)).length = k + 1) ∧ Sts wr w.heap.size A c l ∧ Below w.heap.size w wr) (fun _ iv _ => s.size - (intOf iv).toNat)
    case atStart => exact ⟨0, 0, none, 0, [], Nat.zero_le _, rfl, rfl, Nat.zero_le _, rfl, rfl, Row.none_ _ _ _ _, hb⟩
    case round =>
      obtain ⟨i, k, A, c, l, hi, rfl, rfl, hli, hl, hk, hst, hbw⟩ := hrel
      have hsz := hbw.size
      by_cases hlt : i < s.size
      · have HS := Lib.hid (stroke_at (s := s) hlt)
        have HN := Lib.hid (no_stroke (s := s) hlt)
        have b1 : (i : Int) ≤ (s.size : Int) := by omega
        have hrow := Row.alloc hst (.cells #[.string (s.extract 0 i)] 9)
        have HROW := Lib.hid hrow
        clear hrow
        go_wp2_with (at_builtin; refine wpList_append_row _ rfl (.tmp 16) (.tmp 20) 31 rfl w.heap.size 9 i0 _ 1 16 Try.underlying31 hi0 hz0 hz1 hz2 rfl (by omega) rfl HROW.out rfl (Rd.lit (xs := [.string (s.extract 0 i)]) (n := 1) rfl rfl rfl) (by simp [Value.oneCell']) (by simp only [maxLen]; omega) (by omega) (by simp; omega) ?_; intro A3 c3 w3 hrow3 hg3 hat3)
        · have hc1 : ((s[i].toNat : Int) == 47) = true := by assumption
          have hc : s[i] = 47 := UInt8.toNat_inj.1 (by rw [beq_iff_eq] at hc1; rw [show (47 : UInt8).toNat = 47 from rfl]; omega)
          obtain ⟨h1, h2⟩ := HS.out hc
          have hL : Hid (l ++ [tl (s.extract 0 i)] = upsTo (tl s) (k + 1)) := by
            show _ = _
            rw [upsTo_snoc, ← hl.out, ← hk.out, h1, tl_head]
          go_roundw
          case rel =>
            refine ⟨i + 1, k + 1, A3, c3, l ++ [tl (s.extract 0 i)], hlt, by go_num, by simp, by simp; omega, hL, h2.trans (by rw [hk.out]), ?_, ?_⟩
            · unfold Sts
              rw [List.length_append, List.map_append]
              exact hrow3
            · refine (hbw.alloc hsz _).grown hg3 (by simp; omega) (fun k e => ?_)
              exact (Row.lt hst k e).1
          case measure => simp [intOf]; omega
        · have hc1 : ((s[i].toNat : Int) == 47) = false := by assumption
          have hc : ¬ s[i] = 47 := by intro e; rw [e] at hc1; simp at hc1
          go_roundw
          case rel => exact ⟨i + 1, k, A, c, l, hlt, by go_num, rfl, by omega, hl, (HN.out hc).trans hk.out, hst, hbw⟩
          case measure => simp [intOf]; omega
      · have HK : Hid (l = upsL (tl s)) := by
          show _ = _
          have := hk.out
          rw [List.take_of_length_le (by rw [tl_len]; omega)] at this
          rw [HM.out, hl.out, this]; rfl
        clear hk hl
        go_wp2_with fail
        go_ret
        exact ⟨A, c, l, rfl, HK, hst, hbw⟩
set_option maxRecDepth 100000 in
set_option maxHeartbeats 1000000 in
theorem refUps_any (s : ByteArray) (hs : s.size ≤ 1048576) (w : World) : Calls Try.prog 25 #[.string s] w fun e w' => ∃ A c l, e = .returned (.slice A l.length c) ∧ Hid (l = upsL (tl s)) ∧ Sts w' w.heap.size A c l ∧ Below w.heap.size w w' := by
  cases hg : goodB (tl s)
  · have HM : Hid (([] : List (List UInt8)) = upsL (tl s)) := by show _ = _; unfold upsL; rw [hg]; rfl
    have HC := Lib.hid (refGood_no s (by omega) hg)
    clear hg
    go_enter Try.func25, Try.ntmps25
    go_wp2_with fail
    refine (HC.out _).mono ?_
    rintro e w1 ⟨rfl, hb⟩
    go_wp2_with fail
    go_ret
    exact ⟨none, 0, [], rfl, HM, Row.none_ _ _ _ _, hb⟩
  · have HM : Hid (upsL (tl s) = upsTo (tl s) ((cutL (tl s)).length - 1)) := by show _ = _; unfold upsL upsTo; rw [hg]; rfl
    have HC := Lib.hid (refGood_yes s (by omega) hg)
    have hs96 := goodB_len hg
    rw [tl_len] at hs96
    clear hg
    obtain ⟨i0, hi0, hz0, hz1, hz2⟩ := info_parts str_info
    go_enter Try.func25, Try.ntmps25
    go_wp2_with fail
    refine (HC.out _).mono ?_
    rintro e w1 ⟨rfl, hb⟩
    go_wp2_with fail
    refine (refCut_any s (by omega) _).mono ?_
    rintro e w2 ⟨A, c, l, rfl, hl, hst, hb2⟩
    replace hb2 := bthen hb hb2
    go_wp2_with fail
    have hl0 : 0 < l.length := by rw [hl.out]; exact cutL_pos _
    have hll : l.length ≤ 97 := by
      have := cutL_len (tl s)
      rw [hl.out]
      rw [tl_len] at this
      omega
    have hpl : ∀ n, (pasteL (l.take n)).length ≤ 1048576 := by
      intro n
      have := paste_take_le l n
      have h2 := congrArg (fun x => (pasteL x).length) hl.out
      rw [paste_cut, tl_len] at h2
      omega
    have HPL := Lib.hid hpl
    have hroom := Row.room hst
    have hcap := Row.cap hst
    have hmx : maxLen = 9223372036854775807 := rfl
    rw [hmx] at hcap
    rw [← hl.out] at HM
    clear hpl
    go_loopw [3, 5] (fun ov iv wr => ∃ (n : Nat) (B : Option Addr) (d : Nat) (o : List (List UInt8)), n + 1 ≤ l.length ∧ iv = .int .i64 ((n + 1 : Nat) : Int) ∧ ov = .slice B o.length d ∧ o.length ≤ n ∧ Hid (o = upsTo (tl s) n) ∧ Sts wr w.heap.size B d o ∧ Sts wr w1.heap.size A c l ∧ (∀ g, ablk B = some g → ablk A ≠ some g) ∧ Below w.heap.size w wr) (fun _ iv _ => l.length - (intOf iv).toNat)
    case atStart => exact ⟨0, none, 0, [], by omega, rfl, rfl, Nat.zero_le _, rfl, Row.none_ _ _ _ _, hst, (fun g hg => by cases hg), hb2⟩
    case round =>
      clear hst
      obtain ⟨n, B, d, o, hn, rfl, rfl, hon, ho, hso, hst, hap, hbw⟩ := hrel
      have hsz := hbw.size
      by_cases hlt : n + 1 < l.length
      · have hrd := (Sts.rd hst).take (k := n + 1) (by omega)
        have hdl : Hid ((l.map stv).take ((n + 1) * 1) = (l.take (n + 1)).map stv) := by show _ = _; rw [Nat.mul_one, List.map_take]
        rw [hdl.out] at hrd
        have hdn : Hid (n + 1 = (l.take (n + 1)).length) := by show _ = _; rw [List.length_take]; omega
        have HRD := Lib.hid hrd
        clear hrd hdl
        have b1 : ((n + 1 : Nat) : Int) ≤ (c : Int) := by omega
        have b2 : (0 : Int) ≤ ((n + 1 : Nat) : Int) := by omega
        have b3 : ((n + 1 : Nat) : Int) < (l.length : Int) := by omega
        have HP := Lib.hid (paste_any A c (l.take (n + 1)) _ wr (by rw [← hdn.out]; exact HRD.out) (by rw [← hdn.out]; omega) (HPL.out _))
        rw [← hdn.out] at HP
        go_wp2_with fail
        refine HP.out.mono ?_
        rintro e w4 ⟨t, rfl, ht, hq⟩
        have hq2 := hq.below
        have hs4 := hq2.size
        have hso4 := (Sts.below hso hq2).alloc (.cells #[.string t] 9)
        have hst4 := (Sts.below hst hq2).alloc (.cells #[.string t] 9)
        have HROW := Lib.hid hso4
        have hap4 : ∀ g, ablk A = some g → g < (w4.alloc (.cells #[.string t] 9)).heap.size := fun g hg => (Row.lt hst4 g hg).2
        clear hso4
        go_wp2_with (at_builtin; refine wpList_append_row _ rfl (.tmp 17) (.tmp 22) 31 rfl w.heap.size 9 i0 _ 1 16 Try.underlying31 hi0 hz0 hz1 hz2 rfl (by omega) rfl HROW.out rfl (Rd.lit (xs := [.string t]) (n := 1) rfl rfl rfl) (by simp [Value.oneCell']) (by simp only [maxLen]; omega) (by omega) (by simp; omega) ?_; intro A3 c3 w5 hrow3 hg3 hat3)
        go_roundw
        case rel =>
          refine ⟨n + 1, A3, c3, o ++ [tl t], by omega, by go_num, by simp, by simp; omega, ?_, ?_, ?_, ?_, ?_⟩
          · show _ = _
            rw [upsTo_snoc, ← ho.out, ht.out, hl.out]
          · unfold Sts
            rw [List.length_append, List.map_append]
            exact hrow3
          · exact Row.fr hst4 (Fr.of_grown hg3 (S := fun k => ablk B = some k) (fun k _ e => e)) (fun g hg e => hap g e hg)
          · intro g hg hgA
            rcases hat3 g hg with h | h
            · exact hap g h hgA
            · have := hap4 g hgA
              omega
          · refine ((hbw.trans (hq2.mono hsz)).alloc (by omega) _).grown hg3 (by simp; omega) (fun k e => ?_)
            exact (Row.lt hso k e).1
        case measure => simp [intOf]; omega
      · go_wp2_with fail
        go_ret
        refine ⟨B, d, o, rfl, ?_, hso, hbw⟩
        show _ = _
        rw [HM.out, ho.out, show l.length - 1 = n by omega]
set_option maxRecDepth 100000 in
set_option maxHeartbeats 1000000 in
theorem refSame03_any (A B : Option Addr) (c d : Nat) (l m : List (List UInt8)) (Z Z' : Nat → Prop) (w : World) (hl : Rd w Z 1 A l.length (l.map stv)) (hm : Rd w Z' 1 B m.length (m.map stv)) (hn : l.length ≤ 1099511627776) : Calls Try.prog 24 #[.slice A l.length c, .slice B m.length d] w fun e w' => e = .returned (.bool (l == m)) ∧ Qt w w' := by
  obtain ⟨R, hR⟩ : ∃ R, R = (l == m) := ⟨_, rfl⟩
  rw [← hR]
  by_cases hlen : l.length = m.length
  · have HR := Lib.hid hR
    clear hR
    have hq0 : ((l.length : Int) != (m.length : Int)) = false := by simp [hlen]
    have h1 : (l.length : Int) = (m.length : Int) := by omega
    have H1 := Lib.hid h1
    have H2 := Lib.hid hlen
    clear h1 hlen
    go_enter Try.func24, Try.ntmps24
    go_wp2_with fail
    go_loopw [5] (fun iv wr => ∃ i : Nat, i ≤ l.length ∧ iv = .int .i64 (i : Int) ∧ Hid (l.take i = m.take i) ∧ Qt w wr) (fun iv _ => l.length - (intOf iv).toNat)
    case atStart => exact ⟨0, Nat.zero_le _, rfl, rfl, Qt.refl _⟩
    case round =>
      obtain ⟨i, hi, rfl, hz, hq⟩ := hrel
      by_cases hlt : i < l.length
      · have hltm : i < m.length := by have := H2.out; omega
        obtain ⟨g, off, rfl, _, _, hcell⟩ := (hl.below hq.below).atm hlt
        obtain ⟨g', off', rfl, _, _, hcell'⟩ := (hm.below hq.below).atm hltm
        obtain ⟨xi, hxi⟩ : ∃ z, z = l[i] := ⟨_, rfl⟩
        obtain ⟨yi, hyi⟩ : ∃ z, z = m[i] := ⟨_, rfl⟩
        rw [← hxi] at hcell
        rw [← hyi] at hcell'
        have HN : Hid (xi = yi → l.take (i + 1) = m.take (i + 1)) := by
          intro e
          rw [List.take_succ_eq_append_getElem hlt, List.take_succ_eq_append_getElem hltm, hz.out, ← hxi, ← hyi, e]
        have HD : Hid (xi ≠ yi → R = false) := by
          intro hne
          rw [HR.out, beq_eq_false_iff_ne]
          intro e
          subst e
          exact hne (hxi.trans hyi.symm)
        have b1 : (i : Int) < (m.length : Int) := by omega
        clear hxi hyi hz
        unfold stv at hcell hcell'
        by_cases hxy : xi = yi
        · have hn : (!xi == yi) = false := by simp [hxy]
          have HN2 := Lib.hid (HN.out hxy)
          clear HN HD hxy
          go_wp2_with fail
          go_quiet (fail)
          go_wp2_with fail
          go_roundw
          case rel => exact ⟨i + 1, hlt, by go_num, HN2.out, hq.trans ⟨_, rfl⟩⟩
          case measure => simp [intOf]; omega
        · have hn : (!xi == yi) = true := by simp [hxy]
          have HD2 := Lib.hid (HD.out hxy)
          clear HN HD hxy
          go_wp2_with fail
          go_quiet (fail)
          go_wp2_with fail
          go_ret
          exact ⟨ret_b HD2.out.symm, hq.trans ⟨_, rfl⟩⟩
      · have HZ : Hid (l = m) := by
          have h := hz.out
          rw [List.take_of_length_le (by omega), List.take_of_length_le (by have := H2.out; omega)] at h
          exact h
        clear hz
        go_wp2_with fail
        go_ret
        refine ⟨ret_b ?_, hq⟩
        rw [HR.out, HZ.out]
        simp
  · have hq0 : ((l.length : Int) != (m.length : Int)) = true := by simp; omega
    have hq1 : ((l.length : Int) == (m.length : Int)) = false := by simp; omega
    have HR : Hid (R = false) := by show _ = _; rw [hR, beq_eq_false_iff_ne]; intro e; exact hlen (by rw [e])
    clear hlen hR
    go_enter Try.func24, Try.ntmps24
    go_wp2_with fail
    go_ret
    exact ⟨ret_b HR.out.symm, Qt.refl _⟩
end Go.Proofs.Ytffimpjjdhnajaa
