/- name.Depth, Join. -/
import Derived.Test.YtffimpjjdhnajaaNameParts
import Derived.Test.YtffimpjjdhnajaaNamePaste
import Derived.Lib.Join
namespace Go.Proofs.Ytffimpjjdhnajaa
open Go.RowKit

theorem paste_join : ∀ l : List (List UInt8), pasteL l = Lib.join l [47]
  | [] => rfl
  | [x] => by rw [Lib.join_one]; rfl
  | x :: y :: l => by
    have ih := paste_join (y :: l)
    rw [pasteL, ih, Lib.join_cons, Lib.join_cons]
    simp [Lib.joinTail]
/-- the path of parts -/
def joinL (l : List (List UInt8)) : List UInt8 := if l.all (fun x => !x.contains 47) && goodB (pasteL l) then pasteL l else []
set_option maxRecDepth 100000 in
theorem depth_any (s : ByteArray) (hs : s.size ≤ 9223372036854775807) (w : World) : Calls Try.prog 32 #[.string s] w fun e w' => e = .returned (.int .i64 ((if goodB (tl s) then (cutL (tl s)).length else 0 : Nat) : Int)) ∧ Below w.heap.size w w' := by
  obtain ⟨R, hR⟩ : ∃ R, R = (if goodB (tl s) then (cutL (tl s)).length else 0 : Nat) := ⟨_, rfl⟩
  rw [← hR]
  cases hg : goodB (tl s)
  · have HP := Lib.hid (parts_bad s hs hg)
    have HR : Hid (R = 0) := by show _ = _; rw [hR, hg]; rfl
    clear hg hR
    go_enter Try.func32, Try.ntmps32
    go_wp2_with fail
    refine (HP.out _).mono ?_
    rintro e w1 ⟨rfl, hb⟩
    go_wp2_with fail
    go_ret
    exact ⟨ret_i (by rw [HR.out]; rfl), hb⟩
  · have HP := Lib.hid (parts_good s hs hg)
    have HR : Hid (R = (cutL (tl s)).length) := by show _ = _; rw [hR, hg]; rfl
    clear hg hR
    go_enter Try.func32, Try.ntmps32
    go_wp2_with fail
    refine (HP.out _).mono ?_
    rintro e w1 ⟨A, c, l, rfl, hl, hst, hb⟩
    go_wp2_with fail
    go_ret
    exact ⟨ret_i (by rw [HR.out, hl.out]), hb⟩
/-- strings.Join at a stroke -/
theorem strJoin_any (A : Option Addr) (c : Nat) (l : List (List UInt8)) (Z : Nat → Prop) (w : World) (h : Rd w Z 1 A l.length (l.map stv)) (hc : l.length ≤ c) (hn : l.length ≤ 1048576) (hl : (pasteL l).length ≤ 1048576) :
    Calls Try.prog 70 #[.slice A l.length c, .string ⟨#[47]⟩] w fun e w' => ∃ t, e = .returned (.string t) ∧ Hid (tl t = pasteL l) ∧ Below w.heap.size w w' := by
  rcases Nat.eq_zero_or_pos l.length with h0 | h0
  · obtain rfl := List.length_eq_zero_iff.1 h0
    refine (Try.strings_Join_none A c ⟨#[47]⟩ w).mono ?_
    rintro e w' ⟨rfl, rfl⟩
    exact ⟨_, rfl, rfl, Below.refl _ _⟩
  · obtain ⟨b, off, rfl, _, hb, hcell⟩ := h.2 (by omega)
    have hj := Try.strings_Join b off c (l.map fun x => (⟨⟨x⟩⟩ : ByteArray)) ⟨#[47]⟩ w (by
      intro j x hx
      rw [List.getElem?_map] at hx
      obtain ⟨y, hy, rfl⟩ := Option.map_eq_some_iff.1 hx
      exact hcell j _ (by rw [List.getElem?_map, hy]; rfl)) hb (by rw [List.length_map]; omega) (by rw [List.length_map]; exact hc) (by
      rw [List.map_map, show ((fun x : ByteArray => x.data.toList) ∘ fun x => (⟨⟨x⟩⟩ : ByteArray)) = id from rfl, List.map_id]
      rw [paste_join] at hl
      exact Nat.le_trans hl (by omega))
    rw [List.length_map, List.map_map, show ((fun x : ByteArray => x.data.toList) ∘ fun x => (⟨⟨x⟩⟩ : ByteArray)) = id from rfl, List.map_id] at hj
    refine hj.mono ?_
    rintro e w' ⟨rfl, hw⟩
    exact ⟨_, rfl, by show _ = _; rw [paste_join], hw⟩
set_option maxRecDepth 100000 in
set_option maxHeartbeats 1000000 in
theorem join_any (A : Option Addr) (c : Nat) (l : List (List UInt8)) (Z : Nat → Prop) (w : World) (h : Rd w Z 1 A l.length (l.map stv)) (hc : l.length ≤ c) (hn : l.length ≤ 1048576) (hl : (pasteL l).length ≤ 1048576) :
    Calls Try.prog 34 #[.slice A l.length c] w fun e w' => ∃ t, e = .returned (.string t) ∧ Hid (tl t = joinL l) ∧ Below w.heap.size w w' := by
  go_enter Try.func34, Try.ntmps34
  go_wp2_with fail
  go_loopw [8] (fun iv wr => ∃ i : Nat, i ≤ l.length ∧ iv = .int .i64 (i : Int) ∧ Hid ((l.take i).all (fun x => !x.contains 47) = true) ∧ w = wr) (fun iv _ => l.length - (intOf iv).toNat)
  case atStart => exact ⟨0, Nat.zero_le _, rfl, by show _ = _; simp, rfl⟩
  case round =>
    obtain ⟨i, hi, rfl, hz, rfl⟩ := hrel
    by_cases hlt : i < l.length
    · obtain ⟨b, off, rfl, _, _, hcell⟩ := h.atm hlt
      obtain ⟨x, hx⟩ : ∃ z, z = l[i] := ⟨_, rfl⟩
      rw [← hx] at hcell
      have HX := Lib.hid (Try.strings_IndexByte ⟨⟨x⟩⟩ 47 w)
      have hic := index_contains x 47
      obtain ⟨K, hK⟩ : ∃ K, K = Lib.indexByte x 47 := ⟨_, rfl⟩
      have HX2 : Hid (Calls Try.prog 69 #[.string ⟨⟨x⟩⟩, .int .u8 47] w fun e w' => e = .returned (.int .i64 K) ∧ w' = w) := by rw [hK]; exact HX.out
      rw [← hK] at hic
      have HT : Hid (l.take (i + 1) = l.take i ++ [x]) := by show _ = _; rw [hx]; exact List.take_succ_eq_append_getElem hlt
      have HM : Hid (x ∈ l) := by rw [hx]; exact List.getElem_mem hlt
      have HI := Lib.hid hic
      clear hx hic hK HX
      unfold stv at hcell
      by_cases hk : K < 0
      · have hk2 : ¬ (0 : Int) ≤ K := by omega
        have HN : Hid (x.contains 47 = false) := by
          show _ = _
          have := HI.out
          rw [decide_eq_true hk] at this
          cases hb : x.contains 47
          · rfl
          · rw [hb] at this; cases this
        go_wp2_with fail
        refine HX2.out.mono ?_
        rintro e w1 ⟨rfl, hw⟩
        subst hw
        go_wp2_with fail
        go_roundw
        case rel =>
          refine ⟨i + 1, hlt, by go_num, ?_, trivial⟩
          show _ = _
          rw [HT.out, List.all_append, hz.out]
          simp only [List.all_cons, List.all_nil, HN.out]
          rfl
        case measure => simp [intOf]; omega
      · have hk2 : (0 : Int) ≤ K := by omega
        have HN : Hid (x.contains 47 = true) := by
          show _ = _
          have := HI.out
          rw [decide_eq_false hk] at this
          cases hb : x.contains 47
          · rw [hb] at this; cases this
          · rfl
        go_wp2_with fail
        refine HX2.out.mono ?_
        rintro e w1 ⟨rfl, hw⟩
        subst hw
        go_wp2_with fail
        go_ret
        refine ⟨_, rfl, ?_, Below.refl _ _⟩
        show [] = _
        unfold joinL
        rw [if_neg]
        intro hh
        simp only [Bool.and_eq_true] at hh
        have := List.all_eq_true.1 hh.1 x HM.out
        rw [HN.out] at this
        cases this
    · have HA : Hid (l.all (fun x => !x.contains 47) = true) := by have := hz.out; rwa [List.take_of_length_le (by omega)] at this
      have HJ : Hid (joinL l = if goodB (pasteL l) then pasteL l else []) := by show _ = _; unfold joinL; rw [HA.out]; rfl
      clear hz HA
      go_wp2_with fail
      refine (strJoin_any A c l Z w h hc hn hl).mono ?_
      rintro e w1 ⟨t, rfl, ht, hb1⟩
      have hts : t.size ≤ 1048576 := by have := congrArg List.length ht.out; rw [tl_len] at this; omega
      have HCK := Lib.hid (fun w => check_any t (by omega) w)
      rw [ht.out] at HCK
      cases hg : goodB (pasteL l)
      · rw [hg] at HCK HJ
        clear hg
        go_wp2_with fail
        refine (HCK.out _).mono ?_
        rintro e w2 ⟨rfl, hb2⟩
        go_wp2_with fail
        go_ret
        exact ⟨_, rfl, HJ.out.symm, bthen hb1 hb2⟩
      · rw [hg] at HCK HJ
        clear hg
        go_wp2_with fail
        refine (HCK.out _).mono ?_
        rintro e w2 ⟨rfl, hb2⟩
        go_wp2_with fail
        go_ret
        exact ⟨t, rfl, ht.out.trans HJ.out.symm, bthen hb1 hb2⟩
end Go.Proofs.Ytffimpjjdhnajaa
