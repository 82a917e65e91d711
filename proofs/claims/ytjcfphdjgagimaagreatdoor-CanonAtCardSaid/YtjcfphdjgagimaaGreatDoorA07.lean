/- tenderref03: Paste. -/
import Derived.Test.YtjcfphdjgagimaaGreatDoorA06
import Derived.Handy
import Derived.Deep.RegionHeld3
import Derived.Maps.OwnSet

namespace Go.Proofs.YtjcfphdjgagimaaGreatDoor
open Go.RowKit

theorem take_ne {α : Type} {l : List α} {i : Nat} (h0 : i ≠ 0) (h : 0 < l.length) : l.take i ≠ [] := by
  intro e
  rcases List.take_eq_nil_iff.1 e with h1 | h1
  · exact h0 h1
  · rw [h1] at h; simp at h
theorem drop_ne {α : Type} {l : List α} {i : Nat} (h : i < l.length) : l.drop i ≠ [] := by
  intro e
  have := List.drop_eq_nil_iff.1 e
  omega
theorem paste_take_le : ∀ (l : List (List UInt8)) (i : Nat), (pasteL (l.take i)).length ≤ (pasteL l).length
  | l, i => by
    by_cases h : i = 0
    · subst h; simp [pasteL]
    · by_cases h2 : i < l.length
      · conv => rhs; rw [← List.take_append_drop i l, paste_app _ _ (take_ne h (by omega)) (drop_ne h2)]
        simp
      · rw [List.take_of_length_le (by omega)]; exact Nat.le_refl _
theorem paste_one (x : List UInt8) : pasteL [x] = x := rfl

set_option maxRecDepth 100000 in
set_option maxHeartbeats 1000000 in
theorem paste_any (A : Option Addr) (c : Nat) (l : List (List UInt8)) (Z : Nat → Prop) (w : World) (h : Rd w Z 1 A l.length (l.map stv)) (hn : l.length ≤ 1048576) (hl : (pasteL l).length ≤ 1048576) :
    Calls Tryz.prog 81 #[.slice A l.length c] w fun e w' => ∃ s, e = .returned (.string s) ∧ Hid (tl s = pasteL l) ∧ Qt w w' := by
  go_enter Tryz.func81, Tryz.ntmps81
  go_wp2_with fail
  go_loopw [3, 4] (fun sv iv wr => ∃ (i : Nat) (s : ByteArray), i ≤ l.length ∧ iv = .int .i64 (i : Int) ∧ sv = .string s ∧ Hid (tl s = pasteL (l.take i)) ∧ Qt w wr) (fun _ iv _ => l.length - (intOf iv).toNat)
  case atStart => exact ⟨0, ⟨#[]⟩, Nat.zero_le _, rfl, rfl, rfl, Qt.refl _⟩
  case round =>
    obtain ⟨i, s, hi, rfl, rfl, hs, hq⟩ := hrel
    by_cases hlt : i < l.length
    · obtain ⟨b, off, rfl, _, _, hc⟩ := (h.below hq.below).atm hlt
      have ht := paste_take_le l (i + 1)
      have hts : l.take (i + 1) = l.take i ++ [l[i]] := List.take_succ_eq_append_getElem hlt
      have hss := congrArg List.length hs.out
      rw [tl_len] at hss
      obtain ⟨x, hx⟩ : ∃ x, x = l[i] := ⟨_, rfl⟩
      rw [← hx] at hc hts
      unfold stv at hc
      by_cases h0 : i = 0
      · have hst : s.size = 0 := by rw [hss, h0]; rfl
        have HP : Hid (pasteL (l.take (i + 1)) = x) := by show _ = _; rw [hts, h0]; rfl
        rw [HP.out] at ht
        have hi0 : ¬ (0 : Int) < (i : Int) := by omega
        have b1 : s.size + x.length ≤ 9223372036854775807 := by omega
        have HS : Hid (s = ⟨#[]⟩) := tl_inj (List.length_eq_zero_iff.1 (by rw [tl_len]; exact hst))
        clear hts hx hss ht hs hst h0
        go_wp2_with fail
        go_roundw
        case rel => exact ⟨i + 1, _, hlt, by go_num, rfl, by show _ = _; rw [HP.out, HS.out]; rfl, hq⟩
        case measure => simp [intOf]; omega
      · have h1 : (0 : Int) < (i : Int) := by omega
        have HP : Hid (pasteL (l.take (i + 1)) = tl s ++ 47 :: x) := by
          show _ = _
          rw [hts, paste_app _ _ (take_ne h0 (by omega)) (by simp), hs.out, paste_one]
        rw [HP.out, List.length_append, List.length_cons, tl_len] at ht
        have b1 : s.size + 1 ≤ 9223372036854775807 := by omega
        have b2 : s.size + 1 + x.length ≤ 9223372036854775807 := by omega
        clear hts hx hss ht hs h0
        go_wp2_with fail
        go_roundw
        case rel => exact ⟨i + 1, _, hlt, by go_num, rfl, by show _ = _; rw [HP.out, under_short, under_short, List.append_assoc]; rfl, hq⟩
        case measure => simp [intOf]; omega
    · have HT := Lib.hid (show tl s = pasteL l by rw [hs.out, List.take_of_length_le (by omega)])
      clear hs
      go_wp2_with fail
      go_ret
      exact ⟨s, rfl, HT, hq⟩
end Go.Proofs.YtjcfphdjgagimaaGreatDoor

/- name.Parent, Ups; tenderref03.Parent, Ups, Same. -/
namespace Go.Proofs.YtjcfphdjgagimaaGreatDoor
open Go.RowKit

/-- the path above -/
def parT (p : List UInt8) : List UInt8 × Bool := if goodB p && decide (1 < (cutL p).length) then (pasteL (cutL p).dropLast, true) else ([], false)
theorem last_ways (s : ByteArray) : (Lib.lastIndexByte s 47 = -1 ∧ cutL (tl s) = [tl s]) ∨
    (∃ i : Nat, Lib.lastIndexByte s 47 = (i : Int) ∧ i < s.size ∧ 1 < (cutL (tl s)).length ∧ pasteL (cutL (tl s)).dropLast = tl (s.extract 0 i)) := by
  have hget : ∀ j, j < s.size → (tl s)[j]? = some (s.data[j]!) := by
    intro j hj
    have hj' : j < s.data.size := hj
    rw [List.getElem?_eq_getElem (by rw [tl_len]; exact hj), getElem!_pos s.data j hj']
    rfl
  rcases Lib.lastIndexByte_spec s 47 with ⟨h, hn⟩ | ⟨i, hi, h, hc, hn⟩
  · refine .inl ⟨h, cutL_none fun c hcm => ?_⟩
    obtain ⟨k, hk, rfl⟩ := List.getElem_of_mem hcm
    have hk' : k < s.size := by rwa [tl_len] at hk
    have := hget k hk'
    rw [List.getElem?_eq_getElem hk] at this
    injection this with this
    intro e
    refine hn k hk' ?_
    rw [← this, e]; rfl
  · have h47 : (tl s)[i]? = some 47 := by rw [hget i hi]; congr 1; exact UInt8.toNat_inj.1 (by rw [show (47 : UInt8).toNat = 47 from rfl]; omega)
    have hsp : tl s = (tl s).take i ++ 47 :: (tl s).drop (i + 1) := by
      conv => lhs; rw [← List.take_append_drop i (tl s)]
      obtain ⟨hlt, he⟩ := List.getElem?_eq_some_iff.1 h47
      rw [List.drop_eq_getElem_cons hlt, he]
    have hno : cutL ((tl s).drop (i + 1)) = [(tl s).drop (i + 1)] := by
      refine cutL_none fun c hcm => ?_
      obtain ⟨k, hk, rfl⟩ := List.getElem_of_mem hcm
      rw [List.getElem_drop]
      have hk' : i + 1 + k < s.size := by rw [List.length_drop, tl_len] at hk; omega
      have := hget _ hk'
      rw [List.getElem?_eq_getElem (by rw [tl_len]; exact hk')] at this
      injection this with this
      intro e
      refine hn (i + 1 + k) (by omega) hk' ?_
      rw [← this, e]; rfl
    refine .inr ⟨i, h, hi, ?_, ?_⟩
    · rw [hsp, cut_app, hno, List.length_append]
      have := cutL_pos ((tl s).take i)
      simp; omega
    · conv => lhs; rw [hsp, cut_app, hno]
      rw [List.dropLast_concat, paste_cut, tl_head]

set_option maxRecDepth 100000 in
set_option maxHeartbeats 400000 in
theorem parent_any (s : ByteArray) (hs : s.size ≤ 1048576) (w : World) : Calls Tryz.prog 85 #[.string s] w fun e w' => ∃ t b, e = .returned (.tuple #[.string t, .bool b]) ∧ Hid ((tl t, b) = parT (tl s)) ∧ Below w.heap.size w w' := by
  obtain ⟨M, hM⟩ : ∃ M, M = parT (tl s) := ⟨_, rfl⟩
  rw [← hM]
  have HX := Lib.hid (fun w => Tryz.strings_LastIndexByte s 47 (by omega) w)
  rcases last_ways s with ⟨h, hx⟩ | ⟨i, h, hi, hx, hp⟩
  · have HM : Hid (M = ([], false)) := by show _ = _; rw [hM]; unfold parT; rw [hx]; simp
    rw [h] at HX
    clear hM h hx
    go_enter Tryz.func85, Tryz.ntmps85
    go_wp2_with fail
    refine (HX.out _).mono ?_
    rintro e w1 ⟨rfl, hw⟩
    subst hw
    go_wp2_with fail
    go_ret2
    exact ⟨_, _, rfl, HM.out.symm, Below.refl _ _⟩
  · rw [h] at HX
    cases hg : goodB (tl s)
    · have HM : Hid (M = ([], false)) := by show _ = _; rw [hM]; unfold parT; rw [hg]; rfl
      have HC := Lib.hid (check_no s (by omega) hg)
      clear hM h hx hg hp
      go_enter Tryz.func85, Tryz.ntmps85
      go_wp2_with fail
      refine (HX.out _).mono ?_
      rintro e w1 ⟨rfl, hw⟩
      subst hw
      go_wp2_with fail
      refine (HC.out _).mono ?_
      rintro e w2 ⟨rfl, hb⟩
      go_wp2_with fail
      go_ret2
      exact ⟨_, _, rfl, HM.out.symm, hb⟩
    · have HM : Hid (M = (tl (s.extract 0 i), true)) := by show _ = _; rw [hM]; unfold parT; rw [hg, decide_eq_true hx, hp]; rfl
      have HC := Lib.hid (check_yes s (by omega) hg)
      have b1 : (i : Int) ≤ (s.size : Int) := by omega
      clear hM h hx hg hp
      go_enter Tryz.func85, Tryz.ntmps85
      go_wp2_with fail
      refine (HX.out _).mono ?_
      rintro e w1 ⟨rfl, hw⟩
      subst hw
      go_wp2_with fail
      refine (HC.out _).mono ?_
      rintro e w2 ⟨rfl, hb⟩
      go_wp2_with fail
      go_ret2
      exact ⟨_, _, rfl, HM.out.symm, hb⟩
set_option maxRecDepth 100000 in
set_option maxHeartbeats 400000 in
theorem refParent_any (s : ByteArray) (hs : s.size ≤ 1048576) (w : World) : Calls Tryz.prog 54 #[.string s] w fun e w' => ∃ t, e = .returned (.string t) ∧ Hid (tl t = (parT (tl s)).1) ∧ Below w.heap.size w w' := by
  obtain ⟨M, hM⟩ : ∃ M, M = (parT (tl s)).1 := ⟨_, rfl⟩
  rw [← hM]
  cases hg : goodB (tl s)
  · have HM : Hid (M = []) := by show _ = _; rw [hM]; unfold parT; rw [hg]; rfl
    have HC := Lib.hid (refGood_no s (by omega) hg)
    clear hM hg
    go_enter Tryz.func54, Tryz.ntmps54
    go_wp2_with fail
    refine (HC.out _).mono ?_
    rintro e w2 ⟨rfl, hb⟩
    go_wp2_with fail
    go_ret
    exact ⟨_, rfl, HM.out.symm, hb⟩
  · have HM : Hid (M = pasteL (cutL (tl s)).dropLast) := by
      show _ = _
      rw [hM]; unfold parT; rw [hg]
      by_cases h : 1 < (cutL (tl s)).length
      · simp [h]
      · have h1 := cutL_pos (tl s)
        have : (cutL (tl s)).dropLast = [] := List.length_eq_zero_iff.1 (by rw [List.length_dropLast]; omega)
        rw [this]; simp [h, pasteL]
    have HC := Lib.hid (refGood_yes s (by omega) hg)
    have hs96 := goodB_len hg
    rw [tl_len] at hs96
    clear hM hg
    go_enter Tryz.func54, Tryz.ntmps54
    go_wp2_with fail
    refine (HC.out _).mono ?_
    rintro e w1 ⟨rfl, hb⟩
    go_wp2_with fail
    refine (refCut_any s (by omega) _).mono ?_
    rintro e w2 ⟨A, c, l, rfl, hl, hst, hb2⟩
    replace hb2 := bthen hb hb2
    rw [← hl.out] at HM
    have hl0 : 0 < l.length := by rw [hl.out]; exact cutL_pos _
    have hll : l.length ≤ 97 := by
      have := cutL_len (tl s)
      rw [hl.out]
      rw [tl_len] at this
      omega
    have hpl : (pasteL l.dropLast).length ≤ 1048576 := by
      have := paste_take_le l (l.length - 1)
      rw [← List.dropLast_eq_take] at this
      have h2 := congrArg (fun x => (pasteL x).length) hl.out
      rw [paste_cut, tl_len] at h2
      omega
    obtain ⟨m, hm⟩ : ∃ m : Nat, l.length = m + 1 := ⟨l.length - 1, by omega⟩
    have hrd := (Sts.rd hst).take (k := m) (by omega)
    have hdl : Hid ((l.map stv).take (m * 1) = l.dropLast.map stv) := by show _ = _; rw [List.dropLast_eq_take, Nat.mul_one, List.map_take, show l.length - 1 = m by omega]
    rw [hdl.out] at hrd
    have hdn : Hid (m = l.dropLast.length) := by show _ = _; rw [List.length_dropLast]; omega
    have hroom := Row.room hst
    have hcap := Row.cap hst
    have hmx : maxLen = 9223372036854775807 := rfl
    rw [hmx] at hcap
    have b0 : (l.length : Int) - 1 = (m : Int) := by omega
    have hw1 : IntKind.i64.wrap ((l.length : Int) - 1) = (m : Int) := by rw [b0]; exact IntWalk.i64_in _ (by omega)
    have b1 : (0 : Int) ≤ (m : Int) := by omega
    have b2 : (m : Int) ≤ (c : Int) := by omega
    have HM1 := Lib.hid hm
    have HRD := Lib.hid hrd
    clear hrd hm hl hdl
    go_wp2_with fail
    rw [hdn.out]
    refine (paste_any A _ l.dropLast _ w2 (by rw [← hdn.out]; exact HRD.out) (by rw [← hdn.out]; omega) hpl).mono ?_
    rintro e w3 ⟨t, rfl, ht, hq⟩
    go_wp2_with fail
    go_ret
    exact ⟨t, rfl, ht.out.trans HM.out.symm, bthen hb2 hq.below⟩

end Go.Proofs.YtjcfphdjgagimaaGreatDoor

/- bytes.Clone. -/
namespace Go.Proofs.YtjcfphdjgagimaaGreatDoor
open Go.RowKit

theorem clone_any (A : Option Addr) (c : Nat) (l : List UInt8) (Z : Nat → Prop) (w : World) (h : By w Z A l) (hlen : l.length ≤ 140737488355328) :
    Calls Tryz.prog 60 #[.slice A l.length c] w fun e w' => ∃ (A' : Option Addr) (c' : Nat) (l' : List UInt8), e = .returned (.slice A' l'.length c') ∧ Hid (l' = l) ∧ OwB w' w.heap.size (.slice A' l'.length c') l' ∧ Below w.heap.size w w' := by
  rcases A with _ | a
  · have hl : l = [] := by
      rcases l with _ | ⟨x, l⟩
      · rfl
      · obtain ⟨b, off, e, _⟩ := h.2 (by simp); cases e
    subst hl
    refine (Tryz.bytes_Clone_nil 0 c w).mono ?_
    rintro e w' ⟨rfl, rfl⟩
    exact ⟨none, 0, [], rfl, rfl, OwB.nil _ _, Below.refl _ _⟩
  · refine (Tryz.bytes_Clone_at a l.length c (l.map fun x => (x.toNat : Int)) w (by simp) hlen ?_).mono ?_
    · intro i hi
      have hg : (l.map bv)[i]? = some (bv l[i]) := by rw [List.getElem?_map, List.getElem?_eq_getElem hi]; rfl
      obtain ⟨b, off, e, _, _, hc⟩ := Rd.atj h hg
      injection e with e
      subst e
      rw [add_none, hc, List.getD_eq_getElem?_getD, List.getElem?_map, List.getElem?_eq_getElem hi]
      rfl
    · rintro e w' ⟨v, rfl, h1, _, hb⟩
      have ho : OwB w' w.heap.size v l := by
        unfold OwB
        have e2 : (l.map fun x => (x.toNat : Int)).map (Value.int .u8) = l.map bv := by simp [bv, Function.comp_def]
        rw [← e2]
        exact h1
      obtain ⟨A', c', rfl, _⟩ := ho.form
      exact ⟨A', c', l, rfl, rfl, ho, hb⟩

end Go.Proofs.YtjcfphdjgagimaaGreatDoor

/- Flat lists of cells. -/
namespace Go.Proofs.YtjcfphdjgagimaaGreatDoor
open Go.RowKit

theorem flat_get {α : Type} {f : α → List Value} {k : Nat} (hk : ∀ x, (f x).length = k) : ∀ (l : List α) (i j : Nat) (hi : i < l.length), j < k → (l.flatMap f)[i * k + j]? = (f l[i])[j]?
  | x :: l, 0, j, _, hj => by
    rw [List.flatMap_cons, List.getElem?_append_left (by rw [hk]; omega)]
    simp
  | x :: l, i + 1, j, hi, hj => by
    have e : (i + 1) * k + j - (f x).length = i * k + j := by rw [hk, Nat.add_mul]; omega
    rw [List.flatMap_cons, List.getElem?_append_right (by rw [hk, Nat.add_mul]; omega), e, flat_get hk l i j (by simpa using hi) hj]
    simp
end Go.Proofs.YtjcfphdjgagimaaGreatDoor

/- leaf and tenderref07: Check, Same, Size, Clone, OfFile, OfDir, Name. -/
namespace Go.Proofs.YtjcfphdjgagimaaGreatDoor
open Go.RowKit

/-- what an answer to 'is a leaf right?' is -/
def checkN (k : Int) (n : Nat) : Int := if k = 1 then (if n ≤ 4096 then 0 else 13) else if k = 0 ∨ k = 2 then (if n = 0 then 0 else 2) else 2
/-- a leaf -/
structure LV where
  k : Int
  x : BV
def LV.cells (o : LV) : List Value := [.int .i64 o.k, .slice o.x.A o.x.l.length o.x.c]
abbrev LV.v (o : LV) : Value := .agg #[.int .i64 o.k, .slice o.x.A o.x.l.length o.x.c]

set_option maxHeartbeats 400000 in
theorem leafCheck_any (k : Int) (A : Option Addr) (n c : Nat) (w : World) (hn : n ≤ 140737488355328) :
    Calls Tryz.prog 59 #[.agg #[.int .i64 k, .slice A n c]] w fun e w' => e = .returned (.int .i64 (checkN k n)) ∧ Below w.heap.size w w' := by
  have h1 : k = 1 → n ≤ 4096 → Hid (checkN k n = 0) := fun h1 h2 => Lib.hid (by unfold checkN; rw [if_pos h1, if_pos h2])
  have h2 : k = 1 → ¬ n ≤ 4096 → Hid (checkN k n = 13) := fun h1 h2 => Lib.hid (by unfold checkN; rw [if_pos h1, if_neg h2])
  have h3 : k ≠ 1 → (k = 0 ∨ k = 2) → n = 0 → Hid (checkN k n = 0) := fun h1 h2 h3 => Lib.hid (by unfold checkN; rw [if_neg h1, if_pos h2, if_pos h3])
  have h4 : k ≠ 1 → (k = 0 ∨ k = 2) → n ≠ 0 → Hid (checkN k n = 2) := fun h1 h2 h3 => Lib.hid (by unfold checkN; rw [if_neg h1, if_pos h2, if_neg h3])
  have h5 : k ≠ 1 → ¬ (k = 0 ∨ k = 2) → Hid (checkN k n = 2) := fun h1 h2 => Lib.hid (by unfold checkN; rw [if_neg h1, if_neg h2])
  generalize checkN k n = r at *
  by_cases k1 : k = 1
  · by_cases hs : n ≤ 4096
    · have hr := h1 k1 hs
      clear h1 h2 h3 h4 h5
      subst k1
      go_enter Tryz.func59, Tryz.ntmps59
      go_wp2_with fail
      go_ret
      exact ⟨by rw [hr.out]; rfl, (by repeat (first | exact Below.refl _ _ | refine Below.alloc ?_ (by simp) _ | refine Below.setCell ?_ (by simp) _ | refine Below.drew ?_))⟩
    · have hr := h2 k1 hs
      clear h1 h2 h3 h4 h5
      subst k1
      go_enter Tryz.func59, Tryz.ntmps59
      go_wp2_with fail
      go_ret
      exact ⟨by rw [hr.out]; rfl, (by repeat (first | exact Below.refl _ _ | refine Below.alloc ?_ (by simp) _ | refine Below.setCell ?_ (by simp) _ | refine Below.drew ?_))⟩
  · have k1b : (k == 1) = false := by simpa using k1
    by_cases k0 : k = 0
    · by_cases hs : n = 0
      · have hr := h3 k1 (.inl k0) hs
        clear h1 h2 h3 h4 h5
        subst k0
        subst hs
        go_enter Tryz.func59, Tryz.ntmps59
        go_wp2_with fail
        go_ret
        exact ⟨by rw [hr.out]; rfl, (by repeat (first | exact Below.refl _ _ | refine Below.alloc ?_ (by simp) _ | refine Below.setCell ?_ (by simp) _ | refine Below.drew ?_))⟩
      · have hr := h4 k1 (.inl k0) hs
        clear h1 h2 h3 h4 h5
        subst k0
        go_enter Tryz.func59, Tryz.ntmps59
        go_wp2_with fail
        go_ret
        exact ⟨by rw [hr.out]; rfl, (by repeat (first | exact Below.refl _ _ | refine Below.alloc ?_ (by simp) _ | refine Below.setCell ?_ (by simp) _ | refine Below.drew ?_))⟩
    · have k0b : (k == 0) = false := by simpa using k0
      by_cases k2 : k = 2
      · by_cases hs : n = 0
        · have hr := h3 k1 (.inr k2) hs
          clear h1 h2 h3 h4 h5
          subst k2
          subst hs
          go_enter Tryz.func59, Tryz.ntmps59
          go_wp2_with fail
          go_ret
          exact ⟨by rw [hr.out]; rfl, (by repeat (first | exact Below.refl _ _ | refine Below.alloc ?_ (by simp) _ | refine Below.setCell ?_ (by simp) _ | refine Below.drew ?_))⟩
        · have hr := h4 k1 (.inr k2) hs
          clear h1 h2 h3 h4 h5
          subst k2
          go_enter Tryz.func59, Tryz.ntmps59
          go_wp2_with fail
          go_ret
          exact ⟨by rw [hr.out]; rfl, (by repeat (first | exact Below.refl _ _ | refine Below.alloc ?_ (by simp) _ | refine Below.setCell ?_ (by simp) _ | refine Below.drew ?_))⟩
      · have k2b : (k == 2) = false := by simpa using k2
        have hr := h5 k1 (fun h => h.elim k0 k2)
        clear h1 h2 h3 h4 h5
        by_cases g0 : k < 0
        · go_enter Tryz.func59, Tryz.ntmps59
          go_wp2_with fail
          go_ret
          exact ⟨by rw [hr.out]; rfl, (by repeat (first | exact Below.refl _ _ | refine Below.alloc ?_ (by simp) _ | refine Below.setCell ?_ (by simp) _ | refine Below.drew ?_))⟩
        · have g2 : 2 < k := by omega
          go_enter Tryz.func59, Tryz.ntmps59
          go_wp2_with fail
          go_ret
          exact ⟨by rw [hr.out]; rfl, (by repeat (first | exact Below.refl _ _ | refine Below.alloc ?_ (by simp) _ | refine Below.setCell ?_ (by simp) _ | refine Below.drew ?_))⟩

set_option maxHeartbeats 400000 in
theorem leafCheckR_any (k : Int) (A : Option Addr) (n c : Nat) (w : World) (hn : n ≤ 140737488355328) :
    Calls Tryz.prog 51 #[.agg #[.int .i64 k, .slice A n c]] w fun e w' => e = .returned (.int .i64 (checkN k n)) ∧ Below w.heap.size w w' := by
  have h1 : k = 1 → n ≤ 4096 → Hid (checkN k n = 0) := fun h1 h2 => Lib.hid (by unfold checkN; rw [if_pos h1, if_pos h2])
  have h2 : k = 1 → ¬ n ≤ 4096 → Hid (checkN k n = 13) := fun h1 h2 => Lib.hid (by unfold checkN; rw [if_pos h1, if_neg h2])
  have h3 : k ≠ 1 → (k = 0 ∨ k = 2) → n = 0 → Hid (checkN k n = 0) := fun h1 h2 h3 => Lib.hid (by unfold checkN; rw [if_neg h1, if_pos h2, if_pos h3])
  have h4 : k ≠ 1 → (k = 0 ∨ k = 2) → n ≠ 0 → Hid (checkN k n = 2) := fun h1 h2 h3 => Lib.hid (by unfold checkN; rw [if_neg h1, if_pos h2, if_neg h3])
  have h5 : k ≠ 1 → ¬ (k = 0 ∨ k = 2) → Hid (checkN k n = 2) := fun h1 h2 => Lib.hid (by unfold checkN; rw [if_neg h1, if_neg h2])
  generalize checkN k n = r at *
  by_cases k1 : k = 1
  · by_cases hs : n ≤ 4096
    · have hr := h1 k1 hs
      clear h1 h2 h3 h4 h5
      subst k1
      go_enter Tryz.func51, Tryz.ntmps51
      go_wp2_with fail
      go_ret
      exact ⟨by rw [hr.out]; rfl, (by repeat (first | exact Below.refl _ _ | refine Below.alloc ?_ (by simp) _ | refine Below.setCell ?_ (by simp) _ | refine Below.drew ?_))⟩
    · have hr := h2 k1 hs
      clear h1 h2 h3 h4 h5
      subst k1
      go_enter Tryz.func51, Tryz.ntmps51
      go_wp2_with fail
      go_ret
      exact ⟨by rw [hr.out]; rfl, (by repeat (first | exact Below.refl _ _ | refine Below.alloc ?_ (by simp) _ | refine Below.setCell ?_ (by simp) _ | refine Below.drew ?_))⟩
  · have k1b : (k == 1) = false := by simpa using k1
    by_cases k0 : k = 0
    · by_cases hs : n = 0
      · have hr := h3 k1 (.inl k0) hs
        clear h1 h2 h3 h4 h5
        subst k0
        subst hs
        go_enter Tryz.func51, Tryz.ntmps51
        go_wp2_with fail
        go_ret
        exact ⟨by rw [hr.out]; rfl, (by repeat (first | exact Below.refl _ _ | refine Below.alloc ?_ (by simp) _ | refine Below.setCell ?_ (by simp) _ | refine Below.drew ?_))⟩
      · have hr := h4 k1 (.inl k0) hs
        clear h1 h2 h3 h4 h5
        subst k0
        go_enter Tryz.func51, Tryz.ntmps51
        go_wp2_with fail
        go_ret
        exact ⟨by rw [hr.out]; rfl, (by repeat (first | exact Below.refl _ _ | refine Below.alloc ?_ (by simp) _ | refine Below.setCell ?_ (by simp) _ | refine Below.drew ?_))⟩
    · have k0b : (k == 0) = false := by simpa using k0
      by_cases k2 : k = 2
      · by_cases hs : n = 0
        · have hr := h3 k1 (.inr k2) hs
          clear h1 h2 h3 h4 h5
          subst k2
          subst hs
          go_enter Tryz.func51, Tryz.ntmps51
          go_wp2_with fail
          go_ret
          exact ⟨by rw [hr.out]; rfl, (by repeat (first | exact Below.refl _ _ | refine Below.alloc ?_ (by simp) _ | refine Below.setCell ?_ (by simp) _ | refine Below.drew ?_))⟩
        · have hr := h4 k1 (.inr k2) hs
          clear h1 h2 h3 h4 h5
          subst k2
          go_enter Tryz.func51, Tryz.ntmps51
          go_wp2_with fail
          go_ret
          exact ⟨by rw [hr.out]; rfl, (by repeat (first | exact Below.refl _ _ | refine Below.alloc ?_ (by simp) _ | refine Below.setCell ?_ (by simp) _ | refine Below.drew ?_))⟩
      · have k2b : (k == 2) = false := by simpa using k2
        have hr := h5 k1 (fun h => h.elim k0 k2)
        clear h1 h2 h3 h4 h5
        by_cases g0 : k < 0
        · go_enter Tryz.func51, Tryz.ntmps51
          go_wp2_with fail
          go_ret
          exact ⟨by rw [hr.out]; rfl, (by repeat (first | exact Below.refl _ _ | refine Below.alloc ?_ (by simp) _ | refine Below.setCell ?_ (by simp) _ | refine Below.drew ?_))⟩
        · have g2 : 2 < k := by omega
          go_enter Tryz.func51, Tryz.ntmps51
          go_wp2_with fail
          go_ret
          exact ⟨by rw [hr.out]; rfl, (by repeat (first | exact Below.refl _ _ | refine Below.alloc ?_ (by simp) _ | refine Below.setCell ?_ (by simp) _ | refine Below.drew ?_))⟩

/-- a result of two cells that is stored -/
theorem Blk.two {w : World} {b : Nat} {t : TypeId} {x y x' y' : Value} (h : Blk w b t #[x, y]) :
    Blk ((w.setCell ⟨b, 0, none⟩ x').setCell ⟨b, 1, none⟩ y') b t #[x', y'] ∧ Fr (fun k => k = b) w ((w.setCell ⟨b, 0, none⟩ x').setCell ⟨b, 1, none⟩ y') := by
  refine ⟨?_, ((Fr.refl (fun k => k = b) w).setAt b 0 rfl _).setAt b 1 rfl _⟩
  have := (h.set_ 0 x').set_ 1 y'
  simpa using this
/-- an owned row behind a store of a result -/
theorem OwB.past {w w' : World} {base b : Nat} {t : TypeId} {cs : Array Value} {v : Value} {l : List UInt8} (h : OwB w base v l) (hb : Blk w b t cs) (ht : 5 ≠ t) (k : Fr (fun k => k = b) w w') : OwB w' base v l :=
  h.fr k (fun g hg e => hb.own_ne h ht (by rw [hg, e]))

set_option maxHeartbeats 400000 in
theorem leafClone_any (k : Int) (A : Option Addr) (c : Nat) (l : List UInt8) (Z : Nat → Prop) (w : World) (h : By w Z A l) (hlen : l.length ≤ 140737488355328) :
    Calls Tryz.prog 57 #[.agg #[.int .i64 k, .slice A l.length c]] w fun e w' => ∃ (A' : Option Addr) (c' : Nat) (l' : List UInt8), e = .returned (.agg #[.int .i64 k, .slice A' l'.length c']) ∧ Hid (l' = l) ∧ OwB w' w.heap.size (.slice A' l'.length c') l' ∧ Below w.heap.size w w' := by
  have b0 := ((Blk.new w 46 #[.int .i64 k, .slice A l.length c]).alloc (.cells #[.int .i64 0, .slice none 0 0] 46))
  have b1 := Blk.new (w.alloc (.cells #[.int .i64 k, .slice A l.length c] 46)) 46 #[.int .i64 0, .slice none 0 0]
  have hz : (w.alloc (.cells #[.int .i64 k, .slice A l.length c] 46)).heap.size = w.heap.size + 1 := by simp
  rw [hz] at b1
  have hy := (h.alloc (.cells #[.int .i64 k, .slice A l.length c] 46)).alloc (.cells #[.int .i64 0, .slice none 0 0] 46)
  have hw : Below w.heap.size w ((w.alloc (.cells #[.int .i64 k, .slice A l.length c] 46)).alloc (.cells #[.int .i64 0, .slice none 0 0] 46)) := (by repeat (first | exact Below.refl _ _ | refine Below.alloc ?_ (by simp) _ | refine Below.setCell ?_ (by simp) _ | refine Below.drew ?_))
  go_enter Tryz.func57, Tryz.ntmps57
  go_wp2_with fail
  generalize (w.alloc (.cells #[.int .i64 k, .slice A l.length c] 46)).alloc (.cells #[.int .i64 0, .slice none 0 0] 46) = W at *
  have c0 : W.cell? ⟨w.heap.size, 0, none⟩ = some (.int .i64 k) := b0.cell 0
  have c1 : W.cell? ⟨w.heap.size, 1, none⟩ = some (.slice A l.length c) := b0.cell 1
  go_region_held3 (fun w' => w'.cell? ⟨w.heap.size, 0, none⟩ = some (.int .i64 k) ∧ w'.cell? ⟨w.heap.size, 1, none⟩ = some (.slice A l.length c))
    (first | assumption | exact ⟨c0, c1⟩ | exact ⟨e0, e1⟩ | exact ⟨((hb0.far (by simp) _).far (by simp) _).cell 0, ((hb0.far (by simp) _).far (by simp) _).cell 1⟩)
    (first
    | (go_at_call 60; refine (clone_any A c l Z _ hy.drew hlen).mono ?_; rintro e w1 ⟨A', c', l', rfl, h1, h2, h3⟩; have hb1 : Blk w1 (w.heap.size + 1) 46 #[.int .i64 0, .slice none 0 0] := b1.drew.below h3; have g0 : w1.cell? ⟨w.heap.size + 1, 0, none⟩ = some (.int .i64 0) := hb1.cell 0; have g1 : w1.cell? ⟨w.heap.size + 1, 1, none⟩ = some (.slice none 0 0) := hb1.cell 1; have f0 := hb1.frozen 0; have f1 := hb1.frozen 1; have hb0 : Blk w1 w.heap.size 46 #[.int .i64 k, .slice A l.length c] := b0.drew.below h3; have e0 : w1.cell? ⟨w.heap.size, 0, none⟩ = some (.int .i64 k) := hb0.cell 0; have e1 : w1.cell? ⟨w.heap.size, 1, none⟩ = some (.slice A l.length c) := hb0.cell 1))
  obtain ⟨hb2, hf2⟩ := Blk.two (x' := .int .i64 k) (y' := .slice A' l'.length c') hb1
  have hs1 := hw.size
  have hs3 : W.heap.size ≤ w1.heap.size := h3.size
  have hlow : Below w.heap.size w w1 := hw.drew.trans (h3.mono hs1)
  have ho := h2.past hb1 (by decide) hf2
  clear b0 b1 c0 c1 g0 g1 f0 f1 e0 e1 hb0 hb1
  generalize (w1.setCell ⟨w.heap.size + 1, 0, none⟩ (.int .i64 k)).setCell ⟨w.heap.size + 1, 1, none⟩ (.slice A' l'.length c') = V at *
  have d0 : V.cell? ⟨w.heap.size + 1, 0, none⟩ = some (.int .i64 k) := hb2.cell 0
  have d1 : V.cell? ⟨w.heap.size + 1, 1, none⟩ = some (.slice A' l'.length c') := hb2.cell 1
  go_wp2_with fail
  refine bodyPost_ret (v := .agg #[.int .i64 k, .slice A' l'.length c']) (by simp [results, Tryz.results57, go_sem, d0, d1]) rfl ?_
  exact ⟨A', c', l', rfl, h1, own_base ho (fun g hg => Nat.le_trans hs1 (h2.lt _ hg).1), hlow.trans (hf2.below (by omega) (by intro k hk e; omega))⟩
end Go.Proofs.YtjcfphdjgagimaaGreatDoor

/- tree.Tree in memory, and what is set on it, plainly. -/
namespace Go.Proofs.YtjcfphdjgagimaaGreatDoor
open Go.RowKit

/-- a leaf, plainly -/
abbrev LP := Int × List UInt8
def LV.p (o : LV) : LP := (o.k, o.x.l)
/-- the leaves of a row, plainly -/
def plainL (L : List (List UInt8 × LV)) : List (List UInt8 × LP) := L.map fun x => (x.1, x.2.p)
/-- the row as a map's -/
def mapL (L : List (List UInt8 × LV)) : List (List UInt8 × Value) := L.map fun x => (x.1, x.2.v)
def kindL (o : Option LP) : Int := (o.map (·.1)).getD 0
/-- what Set says, and what it leaves -/
def mayS (T : List (List UInt8 × LP)) (p : List UInt8) (l : LP) : Int :=
  if goodB p = false then 23
  else if checkN l.1 l.2.length ≠ 0 then checkN l.1 l.2.length
  else if l.1 ≠ 2 ∧ ((keysR T).filter fun q => underB q p) ≠ [] then 22
  else if l.1 = 0 then 0
  else if (parT p).2 = true ∧ kindL (getR T (parT p).1) ≠ 2 then 22
  else if (getR T p).isNone ∧ 128 ≤ T.length then 24
  else 0
def doS (T : List (List UInt8 × LP)) (p : List UInt8) (l : LP) : List (List UInt8 × LP) := if l.1 = 0 then withoutR T p else putR T p l
def setS (T : List (List UInt8 × LP)) (p : List UInt8) (l : LP) : List (List UInt8 × LP) := if mayS T p l = 0 then doS T p l else T
/-- what every tree keeps -/
structure TreeOk (T : List (List UInt8 × LP)) : Prop where
  sort : SortR T
  good : ∀ x ∈ T, goodB x.1 = true ∧ (x.2.1 = 1 ∨ x.2.1 = 2) ∧ checkN x.2.1 x.2.2.length = 0
  len : T.length ≤ 128
theorem TreeOk.nil : TreeOk [] := ⟨sortR_nil, by simp, by simp⟩
theorem checkN_kind {k : Int} {n : Nat} (h : checkN k n = 0) : k = 0 ∨ k = 1 ∨ k = 2 := by
  unfold checkN at h
  split at h
  · rename_i h1; exact .inr (.inl h1)
  · split at h
    · rename_i h2; rcases h2 with h2 | h2
      · exact .inl h2
      · exact .inr (.inr h2)
    · simp at h
theorem TreeOk.set {T : List (List UInt8 × LP)} (h : TreeOk T) (p : List UInt8) (l : LP) : TreeOk (setS T p l) := by
  unfold setS
  split
  · rename_i hm
    unfold mayS at hm
    split at hm
    · simp at hm
    · rename_i hg
      split at hm
      · rename_i hc; exact absurd hm hc
      · rename_i hc
        rw [Classical.not_not] at hc
        split at hm
        · simp at hm
        · unfold doS
          split
          · exact ⟨h.sort.without p, fun x hx => h.good x ((List.mem_filter.1 hx).1), Nat.le_trans (without_len_le T p) h.len⟩
          · rename_i h0
            rw [if_neg h0] at hm
            split at hm
            · simp at hm
            · split at hm
              · simp at hm
              · rename_i hf
                refine ⟨h.sort.put p l, fun x hx => ?_, ?_⟩
                · unfold putR at hx
                  rcases mem_ins.1 hx with rfl | hx
                  · refine ⟨by simpa using hg, ?_, hc⟩
                    rcases checkN_kind hc with e | e | e
                    · exact absurd e h0
                    · exact .inl e
                    · exact .inr e
                  · exact h.good x ((List.mem_filter.1 hx).1)
                · unfold putR
                  rw [ins_len]
                  rcases hq : getR T p with _ | v
                  · rw [hq] at hf
                    simp at hf
                    rw [without_self hq]
                    omega
                  · have := h.sort.without_len hq
                    have := h.len
                    omega
  · exact h

/-- the tree at block tb -/
structure TreeAt (w : World) (tb : Nat) (mo : Option Nat) (L : List (List UInt8 × LV)) : Prop where
  blk : Blk w tb 66 #[.map mo]
  map : (mo = none ∧ L = []) ∨ ∃ mb, mo = some mb ∧ MapAt w Tryz.prog 9 mb (mapL L)
  own : ∀ x ∈ L, OwB w 0 (.slice x.2.x.A x.2.x.l.length x.2.x.c) x.2.x.l
  plain : TreeOk (plainL L)
namespace TreeAt
variable {w w' : World} {tb : Nat} {mo : Option Nat} {L : List (List UInt8 × LV)}
theorem c0 (h : TreeAt w tb mo L) : w.cell? ⟨tb, 0, none⟩ = some (.map mo) := h.blk.cell 0
theorem f0 (h : TreeAt w tb mo L) : w.frozen? ⟨tb, 0, none⟩ = false := h.blk.frozen 0
theorem fr {S : Nat → Prop} (h : TreeAt w tb mo L) (k : Fr S w w') (h1 : ¬ S tb) (h2 : ∀ m, mo = some m → ¬ S m) (h3 : ∀ x ∈ L, ∀ g, (Value.slice x.2.x.A x.2.x.l.length x.2.x.c).ownBlock = some g → ¬ S g) : TreeAt w' tb mo L :=
  ⟨h.blk.fr k h1, h.map.imp id fun ⟨mb, e, hm⟩ => ⟨mb, e, hm.block (k.block mb hm.lt (h2 mb e))⟩, fun x hx => own_fr (h.own x hx) k (h3 x hx), h.plain⟩
theorem below (h : TreeAt w tb mo L) (k : Below w.heap.size w w') : TreeAt w' tb mo L := h.fr (Fr.of_below k (fun _ => False)) (fun h => h) (fun _ _ h => h) (fun _ _ _ _ h => h)
/-- a row of the call's own of cells does not lie where the map lies -/
theorem own_map {mb base n size : Nat} {e : TypeId} {v : Value} {xs : List Value} {K : List (List UInt8 × Value)} (hm : MapAt w Tryz.prog 9 mb K) (h : w.ownsRow base e size v n xs) : v.ownBlock ≠ some mb := by
  rcases h.2 with ⟨rfl, _⟩ | ⟨g', cap, cur, rfl, _, hh, _⟩
  · simp [Value.ownBlock]
  · intro he
    have e1 : g' = mb := by simpa [Value.ownBlock] using he
    subst e1
    exact hm.not_cells hh
/-- rows of the call's own do not lie in a tree's own blocks -/
theorem ownT (t : TreeAt w tb mo L) {base n size : Nat} {e : TypeId} {v : Value} {xs : List Value} (h : w.ownsRow base e size v n xs) (he : e ≠ 66) : ∀ g, v.ownBlock = some g → ¬ (g = tb ∨ mo = some g) := by
  rintro g hg (rfl | hm)
  · exact t.blk.own_ne h he hg
  · rcases t.map with ⟨e0, _⟩ | ⟨mb, e0, hm2⟩
    · rw [e0] at hm; cases hm
    · rw [e0] at hm
      injection hm with hm
      subst hm
      exact own_map hm2 h hg
theorem ok (h : TreeAt w tb mo L) : ∀ x ∈ L, x.2.x.ok w (fun b => b ≠ tb ∧ mo ≠ some b) := fun x hx => by
  have h1 := h.own x hx
  obtain ⟨A', c', e, h2, h3, h4⟩ := h1.form
  injection e with e1 e2 e3
  subst e1 e3
  refine ⟨h1.rd.mono (fun b _ hb => ?_), h2, h3⟩
  have h5 := h.ownT h1 (by decide) b (h4 b hb).2.2
  exact ⟨fun e => h5 (.inl e), fun e => h5 (.inr e)⟩
theorem ne (h : TreeAt w tb mo L) : mo ≠ some tb := by
  rcases h.map with ⟨e, _⟩ | ⟨mb, e, hm⟩
  · rw [e]; simp
  · rw [e]
    intro e2
    injection e2 with e2
    subst e2
    exact hm.not_cells h.blk
theorem lt (h : TreeAt w tb mo L) : ∀ m, mo = some m → m < w.heap.size := by
  rcases h.map with ⟨e, _⟩ | ⟨mb, e, hm⟩
  · rw [e]; simp
  · rw [e]
    intro m e2
    injection e2 with e2
    subst e2
    exact hm.lt
/-- a new one -/
theorem new (w : World) : TreeAt (w.alloc (.cells #[.map none] 66)) w.heap.size none [] := ⟨Blk.new _ _ _, .inl ⟨rfl, rfl⟩, by simp, TreeOk.nil⟩
end TreeAt
theorem get_plain (L : List (List UInt8 × LV)) (p : List UInt8) : getR (plainL L) p = (getR L p).map LV.p := getR_map LV.p L p
theorem get_mapL (L : List (List UInt8 × LV)) (p : List UInt8) : getR (mapL L) p = (getR L p).map LV.v := getR_map LV.v L p
theorem keys_plain (L : List (List UInt8 × LV)) : keysR (plainL L) = keysR L := keys_map LV.p L
theorem keys_mapL (L : List (List UInt8 × LV)) : keysR (mapL L) = keysR L := keys_map LV.v L
end Go.Proofs.YtjcfphdjgagimaaGreatDoor

/- tree.Tree: get, Get, Len. -/
namespace Go.Proofs.YtjcfphdjgagimaaGreatDoor
open Go.RowKit Go.Maps

/-- a leaf, or none -/
def leafO : Option LV → Value
  | some o => o.v
  | none => .agg #[.int .i64 0, .slice none 0 0]
theorem leaf_zero (w : World) : (zeroValue 46).run Tryz.prog w = .ok (.agg #[.int .i64 0, .slice none 0 0]) w := by kernel_rfl
theorem str_keyed : Keyed Tryz.prog 9 := string_keyed Tryz.underlying9
/-- what is looked up in a tree's map -/
theorem TreeAt.look {w : World} {tb : Nat} {mo : Option Nat} {L : List (List UInt8 × LV)} (h : TreeAt w tb mo L) (p : List UInt8) (hp : p.length ≤ maxLen) :
    (Instr.lookup 64 (.map mo) (.string ⟨⟨p⟩⟩) false).run Tryz.prog w = .ok (leafO (getR L p)) w := by
  rcases h.map with ⟨rfl, rfl⟩ | ⟨mb, rfl, hm⟩
  · exact Maps.look_nil false str_keyed Tryz.underlying64 (leaf_zero w) (Go.WideMaps.keyOf_string_mk Tryz.underlying9 (s := ⟨⟨p⟩⟩) hp)
  · rw [hm.look Tryz.underlying9 Tryz.underlying64 (leaf_zero w) p hp, get_mapL]
    rcases getR L p with _ | o <;> rfl
theorem TreeAt.look_ok {w : World} {tb : Nat} {mo : Option Nat} {L : List (List UInt8 × LV)} (h : TreeAt w tb mo L) (p : List UInt8) (hp : p.length ≤ maxLen) :
    (Instr.lookup 64 (.map mo) (.string ⟨⟨p⟩⟩) true).run Tryz.prog w = .ok (.tuple #[leafO (getR L p), .bool (getR L p).isSome]) w := by
  rcases h.map with ⟨rfl, rfl⟩ | ⟨mb, rfl, hm⟩
  · exact Maps.look_nil true str_keyed Tryz.underlying64 (leaf_zero w) (Go.WideMaps.keyOf_string_mk Tryz.underlying9 (s := ⟨⟨p⟩⟩) hp)
  · rw [hm.look_ok Tryz.underlying9 Tryz.underlying64 (leaf_zero w) p hp, get_mapL]
    rcases getR L p with _ | o <;> rfl
theorem TreeAt.count {w : World} {tb : Nat} {mo : Option Nat} {L : List (List UInt8 × LV)} (h : TreeAt w tb mo L) (ty : TypeId) :
    (Builtin.len_ #[64] ty #[.map mo]).run Tryz.prog w = .ok (.int .i64 L.length) w := by
  rcases h.map with ⟨rfl, rfl⟩ | ⟨mb, rfl, hm⟩
  · exact Maps.len_nil Tryz.underlying64 ty
  · rw [hm.count Tryz.underlying9 Tryz.underlying64 ty]
    simp [mapL]

set_option maxHeartbeats 400000 in
theorem treeget_any (tb : Nat) (mo : Option Nat) (L : List (List UInt8 × LV)) (p : List UInt8) (w : World) (h : TreeAt w tb mo L) (hp : p.length ≤ 140737488355328) :
    Calls Tryz.prog 73 #[.pointer (some ⟨tb, 0, none⟩), .string ⟨⟨p⟩⟩] w fun e w' => e = .returned (leafO (getR L p)) ∧ Below w.heap.size w w' := by
  have hb0 : Below w.heap.size w (w.alloc (.cells #[.int .i64 0, .slice none 0 0] 46)) := (by repeat (first | exact Below.refl _ _ | refine Below.alloc ?_ (by simp) _ | refine Below.setCell ?_ (by simp) _ | refine Below.drew ?_))
  have h0 := h.below hb0
  have c0 := h0.c0
  have hl := h0.look p (by simp only [maxLen]; omega)
  clear h h0
  generalize getR L p = o at *
  rcases o with _ | ⟨k, A, c, l⟩
  · unfold leafO at hl ⊢
    go_enter Tryz.func73, Tryz.ntmps73
    go_wp2_with fail
    refine bodyPost_ret (v := .agg #[.int .i64 0, .slice none 0 0]) (by simp [results, Tryz.results73, go_sem]) rfl ?_
    exact ⟨rfl, (by repeat (first | exact Below.refl _ _ | refine Below.alloc ?_ (by simp) _ | refine Below.setCell ?_ (by simp) _ | refine Below.drew ?_))⟩
  · unfold leafO LV.v at hl ⊢
    dsimp only at hl ⊢
    go_enter Tryz.func73, Tryz.ntmps73
    go_wp2_with fail
    refine bodyPost_ret (v := .agg #[.int .i64 k, .slice A l.length c]) (by simp [results, Tryz.results73, go_sem]) rfl ?_
    exact ⟨rfl, (by repeat (first | exact Below.refl _ _ | refine Below.alloc ?_ (by simp) _ | refine Below.setCell ?_ (by simp) _ | refine Below.drew ?_))⟩

/-- a leaf told to a caller: of his own -/
def LeafOwn (w : World) (base : Nat) (e : Ending) (o : Option LV) : Prop :=
  ∃ (A : Option Addr) (c : Nat) (l : List UInt8), e = .returned (.agg #[.int .i64 ((o.map LV.k).getD 0), .slice A l.length c]) ∧ Hid (l = (o.map fun x => x.x.l).getD []) ∧ OwB w base (.slice A l.length c) l
theorem TreeAt.small {w : World} {tb : Nat} {mo : Option Nat} {L : List (List UInt8 × LV)} (h : TreeAt w tb mo L) {x : List UInt8 × LV} (hx : x ∈ L) : x.2.x.l.length ≤ 4096 ∧ goodB x.1 = true ∧ (x.2.k = 1 ∨ x.2.k = 2) := by
  obtain ⟨g1, g2, g3⟩ := h.plain.good (x.1, x.2.p) (List.mem_map.2 ⟨x, hx, rfl⟩)
  refine ⟨?_, g1, g2⟩
  unfold checkN LV.p at g3
  dsimp only at g3
  split at g3
  · split at g3
    · assumption
    · simp at g3
  · split at g3
    · split at g3
      · omega
      · simp at g3
    · simp at g3
set_option maxHeartbeats 400000 in
theorem treeGet_ofP (va : Option Addr) (p : List UInt8) (w : World) (k : Int) (A : Option Addr) (c : Nat) (l : List UInt8) (Z : Nat → Prop) (hl : By w Z A l) (hn : l.length ≤ 4096)
    (hg : ∀ W, Below w.heap.size w W → Calls Tryz.prog 73 #[.pointer va, .string ⟨⟨p⟩⟩] W fun e w' => e = .returned (.agg #[.int .i64 k, .slice A l.length c]) ∧ Below W.heap.size W w') :
    Calls Tryz.prog 41 #[.pointer va, .string ⟨⟨p⟩⟩] w fun e w' => ∃ (A' : Option Addr) (c' : Nat) (l' : List UInt8), e = .returned (.agg #[.int .i64 k, .slice A' l'.length c']) ∧ Hid (l' = l) ∧ OwB w' w.heap.size (.slice A' l'.length c') l' ∧ Below w.heap.size w w' := by
  have hb0 : Below w.heap.size w (w.alloc (.cells #[.int .i64 0, .slice none 0 0] 46)) := (by repeat (first | exact Below.refl _ _ | refine Below.alloc ?_ (by simp) _ | refine Below.setCell ?_ (by simp) _ | refine Below.drew ?_))
  have x0 := Blk.new w 46 #[.int .i64 0, .slice none 0 0]
  have HG := Lib.hid hg
  have HL := Lib.hid hl
  clear hg hl
  go_enter Tryz.func41, Tryz.ntmps41
  go_wp2_with fail
  refine (HG.out _ hb0).mono ?_
  rintro e w1 ⟨rfl, hb1⟩
  have hw1 := hb0.trans (hb1.mono hb0.size)
  have x1 := x0.below hb1
  clear x0 hb0 hb1
  go_wp2_with fail
  refine (leafClone_any k A c l Z w1 (HL.out.below hw1) (by omega)).mono ?_
  rintro e w2 ⟨A', c', l', rfl, h1, h2, h3⟩
  have x2 := x1.below h3
  have hw2 := hw1.trans (h3.mono hw1.size)
  have d0 : w2.cell? ⟨w.heap.size, 0, none⟩ = some (.int .i64 0) := x2.cell 0
  have d1 : w2.cell? ⟨w.heap.size, 1, none⟩ = some (.slice none 0 0) := x2.cell 1
  have f0 := x2.frozen 0
  have f1 := x2.frozen 1
  obtain ⟨x3, k3⟩ := Blk.two (x' := .int .i64 k) (y' := .slice A' l'.length c') x2
  have ho := own_base (base' := w.heap.size) (h2.past x2 (by decide) k3) (fun g hg => Nat.le_trans hw1.size (h2.lt _ hg).1)
  have hw3 := hw2.trans (k3.below (B := w.heap.size) hw2.size (by intro k hk e; omega))
  go_wp2_with fail
  generalize (w2.setCell ⟨w.heap.size, 0, none⟩ (.int .i64 k)).setCell ⟨w.heap.size, 1, none⟩ (.slice A' l'.length c') = V at *
  have e0 : V.cell? ⟨w.heap.size, 0, none⟩ = some (.int .i64 k) := x3.cell 0
  have e1 : V.cell? ⟨w.heap.size, 1, none⟩ = some (.slice A' l'.length c') := x3.cell 1
  refine bodyPost_ret (v := .agg #[.int .i64 k, .slice A' l'.length c']) (by simp [results, Tryz.results41, go_sem, e0, e1]) rfl ?_
  exact ⟨A', c', l', rfl, h1, ho, hw3⟩
theorem treeGet_any (tb : Nat) (mo : Option Nat) (L : List (List UInt8 × LV)) (p : List UInt8) (w : World) (h : TreeAt w tb mo L) (hp : p.length ≤ 140737488355328) :
    Calls Tryz.prog 41 #[.pointer (some ⟨tb, 0, none⟩), .string ⟨⟨p⟩⟩] w fun e w' => LeafOwn w' w.heap.size e (getR L p) ∧ Below w.heap.size w w' := by
  have hg := fun W (hW : Below w.heap.size w W) => treeget_any tb mo L p W (h.below hW) hp
  rcases hq : getR L p with _ | ⟨k, A, c, l⟩
  · rw [hq] at hg
    refine (treeGet_ofP (some ⟨tb, 0, none⟩) p w 0 none 0 [] (fun _ => False) Rd.nil (by simp) hg).mono ?_
    rintro e w' ⟨A', c', l', rfl, h1, h2, h3⟩
    exact ⟨⟨A', c', l', rfl, h1, h2⟩, h3⟩
  · rw [hq] at hg
    have hm := getR_mem hq
    refine (treeGet_ofP (some ⟨tb, 0, none⟩) p w k A c l _ (h.ok _ hm).1 (h.small hm).1 hg).mono ?_
    rintro e w' ⟨A', c', l', rfl, h1, h2, h3⟩
    exact ⟨⟨A', c', l', rfl, h1, h2⟩, h3⟩
theorem treeLen_any (tb : Nat) (mo : Option Nat) (L : List (List UInt8 × LV)) (w : World) (h : TreeAt w tb mo L) :
    Calls Tryz.prog 18 #[.pointer (some ⟨tb, 0, none⟩)] w fun e w' => e = .returned (.int .i64 (L.length : Int)) ∧ w = w' := by
  have c0 := h.c0
  have hc := fun ty => h.count ty
  clear h
  go_enter Tryz.func18, Tryz.ntmps18
  go_wp2_with fail
  go_ret
  exact ⟨rfl, rfl⟩
end Go.Proofs.YtjcfphdjgagimaaGreatDoor

/- tree.Tree's paths: those of which something holds, in order. -/
namespace Go.Proofs.YtjcfphdjgagimaaGreatDoor
open Go.RowKit Go.Maps


set_option maxRecDepth 100000 in
set_option maxHeartbeats 1000000 in
theorem pathsBelow_any (hS : SortsT) (tb : Nat) (mo : Option Nat) (L : List (List UInt8 × LV)) (f : List UInt8 → Bool) (xb : Nat) (w : World) (h : TreeAt w tb mo L)
    (hc : ∀ W, Below w.heap.size w W → ∀ p ∈ keysR L, Calls Tryz.prog 99 #[.string ⟨⟨p⟩⟩, .pointer (some ⟨xb, 0, none⟩)] W fun e w' => e = .returned (.bool (f p)) ∧ Below W.heap.size W w') :
    Calls Tryz.prog 71 #[.pointer (some ⟨tb, 0, none⟩), .func (.func 99) #[] #[.pointer (some ⟨xb, 0, none⟩)]] w fun e w' => ∃ (A : Option Addr) (c : Nat) (l : List (List UInt8)), e = .returned (.slice A l.length c) ∧ Hid (l = (keysR L).filter f) ∧ w'.ownsRow w.heap.size 9 1 (.slice A l.length c) l.length (l.map stv) ∧ Below w.heap.size w w' := by
  have c0 := h.c0
  have hT := Lib.hid h
  have hkl : ∀ p ∈ keysR L, p.length ≤ 96 := fun p hp => by
    obtain ⟨x, hx, rfl⟩ := List.mem_map.1 hp
    exact goodB_len (h.small hx).2.1
  rcases h.map with ⟨rfl, rfl⟩ | ⟨mb, rfl, hm⟩
  · have hrg := run_range_nilMap (P := Tryz.prog) w 64 9 46 Tryz.underlying64
    have hnx := fun ty => run_next_nilMap (P := Tryz.prog) w ty 0 0 #[]
    have hb0 : Below w.heap.size w (w.alloc (.mapIter none 0 #[] 0)) := (Below.refl _ _).alloc (Nat.le_refl _) _
    generalize w.alloc (.mapIter none 0 #[] 0) = W0 at *
    have hbs := hb0.size
    have H0 := Lib.hid hb0
    clear h hc hkl hb0
    go_enter Tryz.func71, Tryz.ntmps71
    go_wp2_with fail
    go_loopw [4] (fun ov wr => ov = .slice none 0 0 ∧ wr = W0) (fun _ _ => 0)
    case atStart => exact ⟨rfl, rfl⟩
    case round =>
      obtain ⟨rfl, rfl⟩ := hrel
      have h00 : (Value.slice none 0 0) = .slice none ([] : List (List UInt8)).length 0 := rfl
      go_wp2_with fail
      refine (hS w.heap.size none 0 [] wr (World.ownsRow_nil _ _ _ _) (by simp) (by simp)).mono ?_
      rintro e w2 ⟨rfl, hown2, hg2⟩
      go_wp2_with fail
      go_ret
      exact ⟨none, 0, [], rfl, rfl, by simpa using hown2, H0.out.trans (grown_below hg2 hbs (by simp [ablk]))⟩
  · obtain ⟨w0, hrun, hr0, hg0, hs0⟩ := hm.range Tryz.underlying9 Tryz.underlying64
    have hb0 : Below w.heap.size w w0 := grown_below hg0 (Nat.le_refl _) (by simp)
    clear hm h
    obtain ⟨i0, hi0, hz0, hz1, hz2⟩ := info_parts str_info
    go_enter Tryz.func71, Tryz.ntmps71
    go_wp2_with fail
    have hkeys := keys_mapL L
    go_loopw [4] (fun ov wr => ∃ (seen : List (List UInt8)) (cnt : Nat) (ss : List (List UInt8)) (A : Option Addr) (c : Nat), ov = .slice A ss.length c ∧ Rng wr Tryz.prog 9 mb w.heap.size (mapL L) seen cnt ∧ seen.length ≤ L.length ∧ wr.ownsRow (w.heap.size + 1) 9 1 (.slice A ss.length c) ss.length (ss.map stv) ∧ Hid (ss = seen.filter f) ∧ (∀ x ∈ ss, x.length ≤ 96) ∧ Below w.heap.size w wr) (fun _ wr => wr.rangeLeft mb w.heap.size)
    case atStart => exact ⟨[], _, [], none, 0, rfl, hr0, by simp, World.ownsRow_nil _ _ _ _, rfl, by simp, hb0⟩
    case round =>
      obtain ⟨seen, cnt, ss, A, c, rfl, hr, hsl, hown, hss, hsx, hb⟩ := hrel
      have hlr := hr.lt
      have hsz := hb.size
      have hssl : ss.length ≤ 128 := by
        have := (hT.out.plain).len
        have h2 : ss.length ≤ seen.length := by rw [hss.out]; exact List.length_filter_le _ _
        have h3 : (plainL L).length = L.length := by simp [plainL]
        omega
      rcases hr.next Tryz.underlying9 0 with ⟨hrun, h0, hnd, hall⟩ | ⟨p, v, w1, cnt1, hpv, hpn, hrun, hr1, hlt, hg1, hs1, hen⟩
      · have hfin : ss.mergeSort leT = (keysR L).filter f := by
          rw [hss.out]
          refine sort_keys ((sort_map LV.v (L := L)).1 hr.sort) f (hnd.filter _) fun k => ?_
          rw [List.mem_filter, hall, hkeys]
        have HF := Lib.hid hfin
        clear hfin hss hall hnd
        go_wp2_with fail
        refine (hS _ A c ss _ hown (fun x hx => by have := hsx x hx; omega) (by omega)).mono ?_
        rintro e w2 ⟨rfl, hown2, hg2⟩
        have hab : ∀ g, ablk A = some g → w.heap.size ≤ g := fun g hg => by have := (Row.of_own hown).lt g hg; omega
        go_wp2_with fail
        go_ret
        have hml : (ss.mergeSort leT).length = ss.length := List.length_mergeSort ss
        refine ⟨A, c, ss.mergeSort leT, by rw [hml]; rfl, HF.out, ?_, hb.trans (grown_below hg2 hsz hab)⟩
        rw [hml]
        exact own_base hown2 (fun g hg => by have := (hown2.lt g hg).1; omega)
      · have hpk : p ∈ keysR L := by rw [← hkeys]; exact List.mem_map.2 ⟨_, hpv, rfl⟩
        have hp96 := hkl p hpk
        have hb1 : Below w.heap.size w w1 := hb.trans (grown_below hg1 hsz (fun g hg => by injection hg with hg; omega))
        have hne : (Value.slice A ss.length c).ownBlock ≠ some w.heap.size := fun e => by have := (hown.lt _ e).1; omega
        have hown1 : w1.ownsRow (w.heap.size + 1) 9 1 (.slice A ss.length c) ss.length (ss.map stv) := own_fr hown (Fr.of_grown hg1 (S := fun g => g = w.heap.size) (fun k _ e => by injection e with e; exact e.symm)) (fun g hg e => hne (by rw [hg, e]))
        have hsl2 : (seen ++ [p]).length ≤ L.length := by
          obtain ⟨D, left, _, h4, hcol⟩ := hr1.rng
          have h2 : (seen ++ [p]) ⊆ keysR (mapL L) := fun k hk => by
            have := ((hcol.2 k).1 hk).1
            rw [h4.has] at this
            exact getR_isSome.1 this
          have := nodup_len _ _ hcol.1 h2
          rw [keys_len] at this
          simpa [mapL] using this
        have HC := Lib.hid (hc w1 hb1 p hpk)
        have hss2 : Hid ((seen ++ [p]).filter f = if f p = true then ss ++ [p] else ss) := by
          show _ = _
          rw [List.filter_append, ← hss.out]
          by_cases hf : f p = true
          · rw [if_pos hf, List.filter_cons, if_pos hf]; rfl
          · rw [if_neg hf, List.filter_cons, if_neg hf]; simp
        have hleft := hr.left_eq
        clear hss hown hr hb
        generalize f p = b at HC hss2
        cases b
        · go_wp2_with fail
          refine HC.out.mono ?_
          rintro e w2 ⟨rfl, hb2⟩
          have hr2 := hr1.kept (below_grown hb2) (by simp) (by simp)
          go_wp2_with fail
          go_roundw
          case rel => exact ⟨seen ++ [p], cnt1, ss, A, c, rfl, hr2, hsl2, own_below hown1 hb2, by show _ = _; rw [hss2.out]; simp, hsx, hb1.trans (hb2.mono hb1.size)⟩
          case measure => rw [hr2.left_eq, hleft]; omega
        · go_wp2_with fail
          refine HC.out.mono ?_
          rintro e w2 ⟨rfl, hb2⟩
          have hr2 := hr1.kept (below_grown hb2) (by simp) (by simp)
          have hown2 := own_below hown1 hb2
          have HO := Lib.hid (World.ownsRow.alloc hown2 (.cells #[stv p] 9))
          have hs2 := hb2.size
          have hmb : mb < w.heap.size := by
            rcases hT.out.map with ⟨e, _⟩ | ⟨mb', e, hm⟩
            · cases e
            · injection e with e; rw [e]; exact hm.lt
          go_wp2_with (at_builtin; refine wpList_append_any _ rfl (.tmp 20) (.tmp 22) 84 rfl (w.heap.size + 1) 9 i0 _ 1 16 Tryz.underlying84 hi0 hz0 hz1 hz2 rfl (by omega) (.slice A ss.length c) ss.length (ss.map stv) rfl HO.out _ _ 1 1 [stv p] rfl (Rd.lit (xs := [stv p]) (n := 1) rfl rfl rfl) (by simp [Value.oneCell', stv]) (by simp only [maxLen]; omega) (by omega) (by simp; omega) ?_; intro v3 w3 hown3 hg3 hat3; obtain ⟨A3, c3, rfl, _⟩ := own_form hown3)
          have hr3 : Rng w3 Tryz.prog 9 mb w.heap.size (mapL L) (seen ++ [p]) cnt1 := (hr2.kept (World.grownBy_alloc _ _ none) (by simp) (by simp)).kept hg3 (fun e => by have := (hown2.lt _ e.symm).1; omega) (fun e => by have := (hown2.lt _ e.symm).1; omega)
          have hb3 : Below w.heap.size w w3 := ((hb1.trans (hb2.mono hb1.size)).alloc (by omega) _).trans (grown_below hg3 (by simp; omega) (fun g hg => by have := (hown2.lt _ hg).1; omega))
          go_roundw
          case rel =>
            refine ⟨seen ++ [p], cnt1, ss ++ [p], A3, c3, by simp, hr3, hsl2, ?_, by show _ = _; rw [hss2.out]; simp, fun x hx => ?_, hb3⟩
            · rw [List.length_append, List.map_append]
              exact hown3
            · rcases List.mem_append.1 hx with hx | hx
              · exact hsx x hx
              · rw [List.mem_singleton.1 hx]; exact hp96
          case measure => rw [hr3.left_eq, hleft]; omega


set_option maxRecDepth 100000 in
set_option maxHeartbeats 1000000 in
theorem pathsKids_any (hS : SortsT) (tb : Nat) (mo : Option Nat) (L : List (List UInt8 × LV)) (f : List UInt8 → Bool) (xb : Nat) (w : World) (h : TreeAt w tb mo L)
    (hc : ∀ W, Below w.heap.size w W → ∀ p ∈ keysR L, Calls Tryz.prog 92 #[.string ⟨⟨p⟩⟩, .pointer (some ⟨xb, 0, none⟩)] W fun e w' => e = .returned (.bool (f p)) ∧ Below W.heap.size W w') :
    Calls Tryz.prog 71 #[.pointer (some ⟨tb, 0, none⟩), .func (.func 92) #[] #[.pointer (some ⟨xb, 0, none⟩)]] w fun e w' => ∃ (A : Option Addr) (c : Nat) (l : List (List UInt8)), e = .returned (.slice A l.length c) ∧ Hid (l = (keysR L).filter f) ∧ w'.ownsRow w.heap.size 9 1 (.slice A l.length c) l.length (l.map stv) ∧ Below w.heap.size w w' := by
  have c0 := h.c0
  have hT := Lib.hid h
  have hkl : ∀ p ∈ keysR L, p.length ≤ 96 := fun p hp => by
    obtain ⟨x, hx, rfl⟩ := List.mem_map.1 hp
    exact goodB_len (h.small hx).2.1
  rcases h.map with ⟨rfl, rfl⟩ | ⟨mb, rfl, hm⟩
  · have hrg := run_range_nilMap (P := Tryz.prog) w 64 9 46 Tryz.underlying64
    have hnx := fun ty => run_next_nilMap (P := Tryz.prog) w ty 0 0 #[]
    have hb0 : Below w.heap.size w (w.alloc (.mapIter none 0 #[] 0)) := (Below.refl _ _).alloc (Nat.le_refl _) _
    generalize w.alloc (.mapIter none 0 #[] 0) = W0 at *
    have hbs := hb0.size
    have H0 := Lib.hid hb0
    clear h hc hkl hb0
    go_enter Tryz.func71, Tryz.ntmps71
    go_wp2_with fail
    go_loopw [4] (fun ov wr => ov = .slice none 0 0 ∧ wr = W0) (fun _ _ => 0)
    case atStart => exact ⟨rfl, rfl⟩
    case round =>
      obtain ⟨rfl, rfl⟩ := hrel
      have h00 : (Value.slice none 0 0) = .slice none ([] : List (List UInt8)).length 0 := rfl
      go_wp2_with fail
      refine (hS w.heap.size none 0 [] wr (World.ownsRow_nil _ _ _ _) (by simp) (by simp)).mono ?_
      rintro e w2 ⟨rfl, hown2, hg2⟩
      go_wp2_with fail
      go_ret
      exact ⟨none, 0, [], rfl, rfl, by simpa using hown2, H0.out.trans (grown_below hg2 hbs (by simp [ablk]))⟩
  · obtain ⟨w0, hrun, hr0, hg0, hs0⟩ := hm.range Tryz.underlying9 Tryz.underlying64
    have hb0 : Below w.heap.size w w0 := grown_below hg0 (Nat.le_refl _) (by simp)
    clear hm h
    obtain ⟨i0, hi0, hz0, hz1, hz2⟩ := info_parts str_info
    go_enter Tryz.func71, Tryz.ntmps71
    go_wp2_with fail
    have hkeys := keys_mapL L
    go_loopw [4] (fun ov wr => ∃ (seen : List (List UInt8)) (cnt : Nat) (ss : List (List UInt8)) (A : Option Addr) (c : Nat), ov = .slice A ss.length c ∧ Rng wr Tryz.prog 9 mb w.heap.size (mapL L) seen cnt ∧ seen.length ≤ L.length ∧ wr.ownsRow (w.heap.size + 1) 9 1 (.slice A ss.length c) ss.length (ss.map stv) ∧ Hid (ss = seen.filter f) ∧ (∀ x ∈ ss, x.length ≤ 96) ∧ Below w.heap.size w wr) (fun _ wr => wr.rangeLeft mb w.heap.size)
    case atStart => exact ⟨[], _, [], none, 0, rfl, hr0, by simp, World.ownsRow_nil _ _ _ _, rfl, by simp, hb0⟩
    case round =>
      obtain ⟨seen, cnt, ss, A, c, rfl, hr, hsl, hown, hss, hsx, hb⟩ := hrel
      have hlr := hr.lt
      have hsz := hb.size
      have hssl : ss.length ≤ 128 := by
        have := (hT.out.plain).len
        have h2 : ss.length ≤ seen.length := by rw [hss.out]; exact List.length_filter_le _ _
        have h3 : (plainL L).length = L.length := by simp [plainL]
        omega
      rcases hr.next Tryz.underlying9 0 with ⟨hrun, h0, hnd, hall⟩ | ⟨p, v, w1, cnt1, hpv, hpn, hrun, hr1, hlt, hg1, hs1, hen⟩
      · have hfin : ss.mergeSort leT = (keysR L).filter f := by
          rw [hss.out]
          refine sort_keys ((sort_map LV.v (L := L)).1 hr.sort) f (hnd.filter _) fun k => ?_
          rw [List.mem_filter, hall, hkeys]
        have HF := Lib.hid hfin
        clear hfin hss hall hnd
        go_wp2_with fail
        refine (hS _ A c ss _ hown (fun x hx => by have := hsx x hx; omega) (by omega)).mono ?_
        rintro e w2 ⟨rfl, hown2, hg2⟩
        have hab : ∀ g, ablk A = some g → w.heap.size ≤ g := fun g hg => by have := (Row.of_own hown).lt g hg; omega
        go_wp2_with fail
        go_ret
        have hml : (ss.mergeSort leT).length = ss.length := List.length_mergeSort ss
        refine ⟨A, c, ss.mergeSort leT, by rw [hml]; rfl, HF.out, ?_, hb.trans (grown_below hg2 hsz hab)⟩
        rw [hml]
        exact own_base hown2 (fun g hg => by have := (hown2.lt g hg).1; omega)
      · have hpk : p ∈ keysR L := by rw [← hkeys]; exact List.mem_map.2 ⟨_, hpv, rfl⟩
        have hp96 := hkl p hpk
        have hb1 : Below w.heap.size w w1 := hb.trans (grown_below hg1 hsz (fun g hg => by injection hg with hg; omega))
        have hne : (Value.slice A ss.length c).ownBlock ≠ some w.heap.size := fun e => by have := (hown.lt _ e).1; omega
        have hown1 : w1.ownsRow (w.heap.size + 1) 9 1 (.slice A ss.length c) ss.length (ss.map stv) := own_fr hown (Fr.of_grown hg1 (S := fun g => g = w.heap.size) (fun k _ e => by injection e with e; exact e.symm)) (fun g hg e => hne (by rw [hg, e]))
        have hsl2 : (seen ++ [p]).length ≤ L.length := by
          obtain ⟨D, left, _, h4, hcol⟩ := hr1.rng
          have h2 : (seen ++ [p]) ⊆ keysR (mapL L) := fun k hk => by
            have := ((hcol.2 k).1 hk).1
            rw [h4.has] at this
            exact getR_isSome.1 this
          have := nodup_len _ _ hcol.1 h2
          rw [keys_len] at this
          simpa [mapL] using this
        have HC := Lib.hid (hc w1 hb1 p hpk)
        have hss2 : Hid ((seen ++ [p]).filter f = if f p = true then ss ++ [p] else ss) := by
          show _ = _
          rw [List.filter_append, ← hss.out]
          by_cases hf : f p = true
          · rw [if_pos hf, List.filter_cons, if_pos hf]; rfl
          · rw [if_neg hf, List.filter_cons, if_neg hf]; simp
        have hleft := hr.left_eq
        clear hss hown hr hb
        generalize f p = b at HC hss2
        cases b
        · go_wp2_with fail
          refine HC.out.mono ?_
          rintro e w2 ⟨rfl, hb2⟩
          have hr2 := hr1.kept (below_grown hb2) (by simp) (by simp)
          go_wp2_with fail
          go_roundw
          case rel => exact ⟨seen ++ [p], cnt1, ss, A, c, rfl, hr2, hsl2, own_below hown1 hb2, by show _ = _; rw [hss2.out]; simp, hsx, hb1.trans (hb2.mono hb1.size)⟩
          case measure => rw [hr2.left_eq, hleft]; omega
        · go_wp2_with fail
          refine HC.out.mono ?_
          rintro e w2 ⟨rfl, hb2⟩
          have hr2 := hr1.kept (below_grown hb2) (by simp) (by simp)
          have hown2 := own_below hown1 hb2
          have HO := Lib.hid (World.ownsRow.alloc hown2 (.cells #[stv p] 9))
          have hs2 := hb2.size
          have hmb : mb < w.heap.size := by
            rcases hT.out.map with ⟨e, _⟩ | ⟨mb', e, hm⟩
            · cases e
            · injection e with e; rw [e]; exact hm.lt
          go_wp2_with (at_builtin; refine wpList_append_any _ rfl (.tmp 20) (.tmp 22) 84 rfl (w.heap.size + 1) 9 i0 _ 1 16 Tryz.underlying84 hi0 hz0 hz1 hz2 rfl (by omega) (.slice A ss.length c) ss.length (ss.map stv) rfl HO.out _ _ 1 1 [stv p] rfl (Rd.lit (xs := [stv p]) (n := 1) rfl rfl rfl) (by simp [Value.oneCell', stv]) (by simp only [maxLen]; omega) (by omega) (by simp; omega) ?_; intro v3 w3 hown3 hg3 hat3; obtain ⟨A3, c3, rfl, _⟩ := own_form hown3)
          have hr3 : Rng w3 Tryz.prog 9 mb w.heap.size (mapL L) (seen ++ [p]) cnt1 := (hr2.kept (World.grownBy_alloc _ _ none) (by simp) (by simp)).kept hg3 (fun e => by have := (hown2.lt _ e.symm).1; omega) (fun e => by have := (hown2.lt _ e.symm).1; omega)
          have hb3 : Below w.heap.size w w3 := ((hb1.trans (hb2.mono hb1.size)).alloc (by omega) _).trans (grown_below hg3 (by simp; omega) (fun g hg => by have := (hown2.lt _ hg).1; omega))
          go_roundw
          case rel =>
            refine ⟨seen ++ [p], cnt1, ss ++ [p], A3, c3, by simp, hr3, hsl2, ?_, by show _ = _; rw [hss2.out]; simp, fun x hx => ?_, hb3⟩
            · rw [List.length_append, List.map_append]
              exact hown3
            · rcases List.mem_append.1 hx with hx | hx
              · exact hsx x hx
              · rw [List.mem_singleton.1 hx]; exact hp96
          case measure => rw [hr3.left_eq, hleft]; omega


theorem paths_nil (v : Value) (w : World) : Calls Tryz.prog 71 #[.pointer none, v] w fun e w' => e = .returned (.slice none 0 0) ∧ w = w' := by
  go_enter Tryz.func71, Tryz.ntmps71
  go_wp2_with fail
  go_ret
  exact ⟨rfl, rfl⟩
end Go.Proofs.YtjcfphdjgagimaaGreatDoor

/- tree.Tree: Below, Kids, all. -/
namespace Go.Proofs.YtjcfphdjgagimaaGreatDoor
open Go.RowKit Go.Maps

/-- texts told to a caller: a row of his own -/
def TxtOwn (w : World) (base : Nat) (e : Ending) (l : List (List UInt8)) : Prop :=
  ∃ (A : Option Addr) (c : Nat) (l' : List (List UInt8)), e = .returned (.slice A l'.length c) ∧ Hid (l' = l) ∧ w.ownsRow base 9 1 (.slice A l'.length c) l'.length (l'.map stv)
theorem below1_any (p : List UInt8) (xb : Nat) (q : List UInt8) (w : World) (hp : p.length ≤ 9223372036854775807) (hq : q.length ≤ 9223372036854775807) (hx : Blk w xb 9 #[.string ⟨⟨p⟩⟩]) :
    Calls Tryz.prog 99 #[.string ⟨⟨q⟩⟩, .pointer (some ⟨xb, 0, none⟩)] w fun e w' => e = .returned (.bool (underB q p)) ∧ Below w.heap.size w w' := by
  have c0 := hx.cell 0
  simp at c0
  have HU := Lib.hid (under_any ⟨⟨q⟩⟩ ⟨⟨p⟩⟩ hq hp w)
  go_enter Tryz.func99, Tryz.ntmps99
  go_wp2_with fail
  refine HU.out.mono ?_
  rintro e w1 ⟨rfl, hb1⟩
  go_wp2_with fail
  go_ret
  exact ⟨rfl, hb1⟩
set_option maxHeartbeats 400000 in
theorem treeBelow_any (hS : SortsT) (tb : Nat) (mo : Option Nat) (L : List (List UInt8 × LV)) (p : List UInt8) (w : World) (h : TreeAt w tb mo L) (hp : p.length ≤ 140737488355328) :
    Calls Tryz.prog 84 #[.pointer (some ⟨tb, 0, none⟩), .string ⟨⟨p⟩⟩] w fun e w' => TxtOwn w' w.heap.size e ((keysR L).filter fun q => underB q p) ∧ Below w.heap.size w w' := by
  have hb0 : Below w.heap.size w (w.alloc (.cells #[.string ⟨⟨p⟩⟩] 9)) := (by repeat (first | exact Below.refl _ _ | refine Below.alloc ?_ (by simp) _ | refine Below.setCell ?_ (by simp) _ | refine Below.drew ?_))
  have hx := Blk.new w 9 #[.string ⟨⟨p⟩⟩]
  have h0 := h.below hb0
  have hkl : ∀ q ∈ keysR L, q.length ≤ 96 := fun q hq => by
    obtain ⟨x, hx, rfl⟩ := List.mem_map.1 hq
    exact goodB_len (h.small hx).2.1
  have HP := Lib.hid (pathsBelow_any hS tb mo L (fun q => underB q p) w.heap.size _ h0 (fun W hW q hq => below1_any p w.heap.size q W (by omega) (by have := hkl q hq; omega) (hx.below hW)))
  clear h h0 hx
  go_enter Tryz.func84, Tryz.ntmps84
  go_wp2_with fail
  refine HP.out.mono ?_
  rintro e w1 ⟨A, c, l, rfl, hl, ho, hb1⟩
  go_wp2_with fail
  go_ret
  exact ⟨⟨A, c, l, rfl, hl, own_base ho (fun g hg => Nat.le_trans hb0.size (ho.lt g hg).1)⟩, hb0.trans (hb1.mono hb0.size)⟩
theorem kids1_any (p : List UInt8) (xb : Nat) (q : List UInt8) (w : World) (hq : q.length ≤ 96) (hx : Blk w xb 9 #[.string ⟨⟨p⟩⟩]) :
    Calls Tryz.prog 92 #[.string ⟨⟨q⟩⟩, .pointer (some ⟨xb, 0, none⟩)] w fun e w' => e = .returned (.bool ((parT q).1 == p)) ∧ Below w.heap.size w w' := by
  have HU := Lib.hid (parent_any ⟨⟨q⟩⟩ (by show q.length ≤ _; omega) w)
  go_enter Tryz.func92, Tryz.ntmps92
  go_wp2_with fail
  refine HU.out.mono ?_
  rintro e w1 ⟨t, b, rfl, ht, hb1⟩
  have c0 := (hx.below hb1).cell 0
  simp at c0
  have e1 : Hid ((t.toList == (⟨⟨p⟩⟩ : ByteArray).toList) = ((parT q).1 == p)) := by
    show _ = _
    have := congrArg Prod.fst ht.out
    rw [show parT q = parT (tl ⟨⟨q⟩⟩) from rfl, ← this]
    rw [ByteArray.toList_eq, ByteArray.toList_eq]
  clear ht HU
  go_wp2_with fail
  go_ret
  exact ⟨ret_b (by rw [← e1.out, ByteArray.toList_eq ⟨⟨p⟩⟩]), hb1⟩
set_option maxHeartbeats 400000 in
theorem treeKids_any (hS : SortsT) (tb : Nat) (mo : Option Nat) (L : List (List UInt8 × LV)) (p : List UInt8) (w : World) (h : TreeAt w tb mo L) :
    Calls Tryz.prog 74 #[.pointer (some ⟨tb, 0, none⟩), .string ⟨⟨p⟩⟩] w fun e w' => TxtOwn w' w.heap.size e ((keysR L).filter fun q => (parT q).1 == p) ∧ Below w.heap.size w w' := by
  have hb0 : Below w.heap.size w (w.alloc (.cells #[.string ⟨⟨p⟩⟩] 9)) := (by repeat (first | exact Below.refl _ _ | refine Below.alloc ?_ (by simp) _ | refine Below.setCell ?_ (by simp) _ | refine Below.drew ?_))
  have hx := Blk.new w 9 #[.string ⟨⟨p⟩⟩]
  have h0 := h.below hb0
  have hkl : ∀ q ∈ keysR L, q.length ≤ 96 := fun q hq => by
    obtain ⟨x, hx, rfl⟩ := List.mem_map.1 hq
    exact goodB_len (h.small hx).2.1
  have HP := Lib.hid (pathsKids_any hS tb mo L (fun q => (parT q).1 == p) w.heap.size _ h0 (fun W hW q hq => kids1_any p w.heap.size q W (hkl q hq) (hx.below hW)))
  clear h h0 hx
  go_enter Tryz.func74, Tryz.ntmps74
  go_wp2_with fail
  refine HP.out.mono ?_
  rintro e w1 ⟨A, c, l, rfl, hl, ho, hb1⟩
  go_wp2_with fail
  go_ret
  exact ⟨⟨A, c, l, rfl, hl, own_base ho (fun g hg => Nat.le_trans hb0.size (ho.lt g hg).1)⟩, hb0.trans (hb1.mono hb0.size)⟩
theorem treeall_nil (w : World) : Calls Tryz.prog 40 #[.pointer none] w fun e w' => e = .returned (.slice none 0 0) ∧ w = w' := by
  go_enter Tryz.func40, Tryz.ntmps40
  go_wp2_with fail
  refine (paths_nil _ w).mono ?_
  rintro e w1 ⟨rfl, rfl⟩
  go_wp2_with fail
  go_ret
  exact ⟨rfl, rfl⟩
end Go.Proofs.YtjcfphdjgagimaaGreatDoor

/- name.Ups, tenderref03.Ups, Same. -/
namespace Go.Proofs.YtjcfphdjgagimaaGreatDoor
open Go.RowKit

end Go.Proofs.YtjcfphdjgagimaaGreatDoor

/- tenderlaw03: lives. -/
namespace Go.Proofs.YtjcfphdjgagimaaGreatDoor
open Go.RowKit

end Go.Proofs.YtjcfphdjgagimaaGreatDoor

/- NameUps is true for every input: the parent of any path, all paths above it, and whether it is under another one, are the document's. No condition beyond the row's own. -/
namespace Go.Proofs.YtjcfphdjgagimaaGreatDoor
open Go.RowKit

end Go.Proofs.YtjcfphdjgagimaaGreatDoor

/- tree.Tree.may: whether something may be set. -/
namespace Go.Proofs.YtjcfphdjgagimaaGreatDoor
open Go.RowKit Go.Maps

theorem paste_drop_len : ∀ (l : List (List UInt8)), l ≠ [] → (pasteL l.dropLast).length ≤ (pasteL l).length
  | [], h => (h rfl).elim
  | [x], _ => by simp [pasteL]
  | [x, y], _ => by simp [pasteL]
  | x :: y :: z :: l, _ => by
    have ih := paste_drop_len (y :: z :: l) (by simp)
    simp only [List.dropLast_cons_cons, pasteL, List.length_append, List.length_cons] at ih ⊢
    omega
theorem parT_len (p : List UInt8) : (parT p).1.length ≤ 96 := by
  unfold parT
  split
  · rename_i h
    rw [Bool.and_eq_true] at h
    have hg := goodB_len h.1
    have hl := paste_drop_len (cutL p) (cutL_ne p)
    rw [paste_cut] at hl
    show (pasteL (cutL p).dropLast).length ≤ 96
    omega
  · simp
theorem leaf_kind (k : Int) (v : Value) (w : World) : (Instr.field 46 (.agg #[.int .i64 k, v]) 0).run Tryz.prog w = .ok (.int .i64 k) w := by kernel_rfl
set_option maxRecDepth 100000 in
set_option maxHeartbeats 2000000 in
theorem treemay_any (hS : SortsT) (tb : Nat) (mo : Option Nat) (L : List (List UInt8 × LV)) (p : List UInt8) (k : Int) (A : Option Addr) (c : Nat) (l : List UInt8) (w : World) (h : TreeAt w tb mo L) (hp : p.length ≤ 1048576) (hn : l.length ≤ 140737488355328) :
    Calls Tryz.prog 56 #[.pointer (some ⟨tb, 0, none⟩), .string ⟨⟨p⟩⟩, .agg #[.int .i64 k, .slice A l.length c]] w fun e w' => e = .returned (.int .i64 (mayS (plainL L) p (k, l))) ∧ Below w.heap.size w w' := by
  obtain ⟨M, hM⟩ : ∃ M, M = mayS (plainL L) p (k, l) := ⟨_, rfl⟩
  rw [← hM]
  have HM := Lib.hid hM
  clear hM
  have HT := Lib.hid h
  have hb0 : Below w.heap.size w (w.alloc (.cells #[.int .i64 k, .slice A l.length c] 46)) := (by repeat (first | exact Below.refl _ _ | refine Below.alloc ?_ (by simp) _ | refine Below.setCell ?_ (by simp) _ | refine Below.drew ?_))
  have x0 := Blk.new w 46 #[.int .i64 k, .slice A l.length c]
  have HCK := Lib.hid (fun W => leafCheck_any k A l.length c W hn)
  have hsn : (getR (plainL L) p).isNone = (getR L p).isNone := by rw [get_plain]; rcases getR L p with _ | o <;> rfl
  have hpl : (plainL L).length = L.length := by simp [plainL]
  clear h
  go_enter Tryz.func56, Tryz.ntmps56
  go_wp2_with fail
  refine (check_any ⟨⟨p⟩⟩ (by show p.length ≤ _; omega) _).mono ?_
  rintro e w1 ⟨rfl, hb1⟩
  rw [show tl ⟨⟨p⟩⟩ = p from rfl]
  have hw1 := hb0.trans (hb1.mono hb0.size)
  have x1 := x0.below hb1
  clear hb1 x0 hb0
  cases hg : goodB p
  · rw [if_neg (by simp)]
    obtain rfl : M = 23 := by rw [HM.out]; unfold mayS; rw [if_pos hg]
    go_wp2_with fail
    go_ret
    exact ⟨rfl, hw1⟩
  · rw [if_pos rfl]
    have hp96 := goodB_len hg
    have q0 : w1.cell? ⟨w.heap.size, 0, none⟩ = some (.int .i64 k) := x1.cell 0
    have q1 : w1.cell? ⟨w.heap.size, 1, none⟩ = some (.slice A l.length c) := x1.cell 1
    go_wp2_with fail
    refine (HCK.out _).mono ?_
    rintro e w2 ⟨rfl, hb2⟩
    have hw2 := hw1.trans (hb2.mono hw1.size)
    have x2 := x1.below hb2
    clear q0 q1 hb2 x1 hw1 HCK
    by_cases hc : checkN k l.length = 0
    · rw [hc]
      have q0 : w2.cell? ⟨w.heap.size, 0, none⟩ = some (.int .i64 k) := x2.cell 0
      have HM1 : Hid (M = if k ≠ 2 ∧ ((keysR (plainL L)).filter fun q => underB q p) ≠ [] then 22 else if k = 0 then 0 else if (parT p).2 = true ∧ kindL (getR (plainL L) (parT p).1) ≠ 2 then 22 else if (getR (plainL L) p).isNone ∧ 128 ≤ (plainL L).length then 24 else 0) := by
        show _ = _
        rw [HM.out]
        unfold mayS
        rw [if_neg (by rw [hg]; simp), if_neg (by simpa using hc)]
      clear HM
      have hk := checkN_kind hc
      clear hc
      rcases hk with rfl | rfl | rfl
      · have HM2 : Hid (M = if ((keysR (plainL L)).filter fun q => underB q p) ≠ [] then 22 else 0) := by
          show _ = _
          rw [HM1.out]
          simp
        clear HM1
        go_wp2_with fail
        refine (treeBelow_any hS tb mo L p w2 (HT.out.below hw2) (by omega)).mono ?_
        rintro e w3 ⟨⟨A3, c3, l3, rfl, hl3, _⟩, hb3⟩
        have hw3 := hw2.trans (hb3.mono hw2.size)
        have x3 := x2.below hb3
        have hlk : ((keysR (plainL L)).filter fun q => underB q p) = l3 := by rw [keys_plain]; exact hl3.out.symm
        rw [hlk] at HM2
        clear hl3 hlk q0 x2 hb3
        have q0 : w3.cell? ⟨w.heap.size, 0, none⟩ = some (.int .i64 0) := x3.cell 0
        rcases l3 with _ | ⟨y, l3⟩
        · rw [if_neg (by simp)] at HM2
          obtain rfl : M = 0 := HM2.out
          go_wp2_with fail
          go_ret
          exact ⟨rfl, hw3⟩
        · rw [if_pos (by simp)] at HM2
          obtain rfl : M = 22 := HM2.out
          have hl0 : 0 < (y :: l3).length := by simp
          generalize (y :: l3).length = n3 at *
          go_wp2_with fail
          go_ret
          exact ⟨rfl, hw3⟩
      · have HM2 : Hid (M = if ((keysR (plainL L)).filter fun q => underB q p) ≠ [] then 22 else if (parT p).2 = true ∧ kindL (getR (plainL L) (parT p).1) ≠ 2 then 22 else if (getR (plainL L) p).isNone ∧ 128 ≤ (plainL L).length then 24 else 0) := by
          show _ = _
          rw [HM1.out]
          simp
        clear HM1
        go_wp2_with fail
        refine (treeBelow_any hS tb mo L p w2 (HT.out.below hw2) (by omega)).mono ?_
        rintro e w3 ⟨⟨A3, c3, l3, rfl, hl3, _⟩, hb3⟩
        have hw3 := hw2.trans (hb3.mono hw2.size)
        have x3 := x2.below hb3
        have hlk : ((keysR (plainL L)).filter fun q => underB q p) = l3 := by rw [keys_plain]; exact hl3.out.symm
        rw [hlk] at HM2
        clear hl3 hlk q0 x2 hb3
        have q0 : w3.cell? ⟨w.heap.size, 0, none⟩ = some (.int .i64 1) := x3.cell 0
        rcases l3 with _ | ⟨y, l3⟩
        · rw [if_neg (by simp)] at HM2
          go_wp2_with fail
          clear q0 x3
          refine (parent_any ⟨⟨p⟩⟩ (by show p.length ≤ _; omega) w3).mono ?_
          rintro e w4 ⟨⟨⟨t⟩⟩, b, rfl, ht, hb4⟩
          rw [show tl ⟨⟨p⟩⟩ = p from rfl, show tl ⟨⟨t⟩⟩ = t from rfl] at ht
          rw [← ht.out] at HM2
          dsimp only at HM2
          have htl : t.length ≤ 96 := by
            have h1 := congrArg Prod.fst ht.out
            dsimp only at h1
            rw [h1]
            exact parT_len p
          have hw4 := hw3.trans (hb4.mono hw3.size)
          clear ht hb4
          cases b
          · rw [if_neg (by simp)] at HM2
            have hcc := (HT.out.below hw4).c0
            have hlo := (HT.out.below hw4).look_ok p (by simp only [maxLen]; omega)
            rw [hsn, hpl] at HM2
            generalize getR L p = op at *
            rcases op with _ | ⟨ko, Ao, co, lo⟩
            · unfold leafO at hlo
              rw [show (none : Option LV).isSome = false from rfl] at hlo
              have hbA : Below w4.heap.size w4 (w4.alloc (.cells #[.int .i64 0, .slice none 0 0] 46)) := (by repeat (first | exact Below.refl _ _ | refine Below.alloc ?_ (by simp) _ | refine Below.setCell ?_ (by simp) _ | refine Below.drew ?_))
              have hA := HT.out.below (hw4.trans (hbA.mono hw4.size))
              have c5 := hA.c0
              have hct := fun ty => hA.count ty
              have hwA := hw4.trans (hbA.mono hw4.size)
              have Hw := Lib.hid hwA
              clear hA hbA hwA
              by_cases h128 : 128 ≤ L.length
              · obtain rfl : M = 24 := by rw [HM2.out, if_pos ⟨rfl, h128⟩]
                clear HM2
                go_wp2_with fail
                go_ret
                exact ⟨rfl, Hw.out⟩
              · obtain rfl : M = 0 := by rw [HM2.out, if_neg (fun e => h128 e.2)]
                clear HM2
                go_wp2_with fail
                go_ret
                exact ⟨rfl, Hw.out⟩
            · unfold leafO LV.v at hlo
              dsimp only at hlo
              rw [show (some (⟨ko, ⟨Ao, co, lo⟩⟩ : LV)).isSome = true from rfl] at hlo
              have hbA : Below w4.heap.size w4 (w4.alloc (.cells #[.int .i64 ko, .slice Ao lo.length co] 46)) := (by repeat (first | exact Below.refl _ _ | refine Below.alloc ?_ (by simp) _ | refine Below.setCell ?_ (by simp) _ | refine Below.drew ?_))
              have hA := HT.out.below (hw4.trans (hbA.mono hw4.size))
              have c5 := hA.c0
              have hct := fun ty => hA.count ty
              have hwA := hw4.trans (hbA.mono hw4.size)
              have Hw := Lib.hid hwA
              clear hA hbA hwA
              obtain rfl : M = 0 := by rw [HM2.out, if_neg (fun e => by cases e.1)]
              clear HM2
              go_wp2_with fail
              go_ret
              exact ⟨rfl, Hw.out⟩
          · rw [get_plain] at HM2
            go_wp2_with fail
            refine (treeget_any tb mo L t w4 (HT.out.below hw4) (by omega)).mono ?_
            rintro e w5 ⟨rfl, hb5⟩
            have hw5 := hw4.trans (hb5.mono hw4.size)
            clear hb5
            obtain ⟨kk, vv, hv, hkk⟩ : ∃ kk vv, leafO (getR L t) = .agg #[.int .i64 kk, vv] ∧ kindL ((getR L t).map LV.p) = kk := by
              rcases getR L t with _ | ⟨ko, Ao, co, lo⟩
              · exact ⟨0, _, rfl, rfl⟩
              · exact ⟨ko, _, rfl, rfl⟩
            rw [hv]
            rw [hkk] at HM2
            have hfk := fun W => leaf_kind kk vv W
            clear hv hkk
            by_cases hk2 : kk = 2
            · have hk2b : (kk != 2) = false := by simp [hk2]
              rw [if_neg (by simp [hk2])] at HM2
              clear hk2
              have hcc := (HT.out.below hw5).c0
              have hlo := (HT.out.below hw5).look_ok p (by simp only [maxLen]; omega)
              rw [hsn, hpl] at HM2
              generalize getR L p = op at *
              rcases op with _ | ⟨ko, Ao, co, lo⟩
              · unfold leafO at hlo
                rw [show (none : Option LV).isSome = false from rfl] at hlo
                have hbA : Below w5.heap.size w5 (w5.alloc (.cells #[.int .i64 0, .slice none 0 0] 46)) := (by repeat (first | exact Below.refl _ _ | refine Below.alloc ?_ (by simp) _ | refine Below.setCell ?_ (by simp) _ | refine Below.drew ?_))
                have hA := HT.out.below (hw5.trans (hbA.mono hw5.size))
                have c5 := hA.c0
                have hct := fun ty => hA.count ty
                have hwA := hw5.trans (hbA.mono hw5.size)
                have Hw := Lib.hid hwA
                clear hA hbA hwA
                by_cases h128 : 128 ≤ L.length
                · obtain rfl : M = 24 := by rw [HM2.out, if_pos ⟨rfl, h128⟩]
                  clear HM2
                  go_wp2_with fail
                  go_ret
                  exact ⟨rfl, Hw.out⟩
                · obtain rfl : M = 0 := by rw [HM2.out, if_neg (fun e => h128 e.2)]
                  clear HM2
                  go_wp2_with fail
                  go_ret
                  exact ⟨rfl, Hw.out⟩
              · unfold leafO LV.v at hlo
                dsimp only at hlo
                rw [show (some (⟨ko, ⟨Ao, co, lo⟩⟩ : LV)).isSome = true from rfl] at hlo
                have hbA : Below w5.heap.size w5 (w5.alloc (.cells #[.int .i64 ko, .slice Ao lo.length co] 46)) := (by repeat (first | exact Below.refl _ _ | refine Below.alloc ?_ (by simp) _ | refine Below.setCell ?_ (by simp) _ | refine Below.drew ?_))
                have hA := HT.out.below (hw5.trans (hbA.mono hw5.size))
                have c5 := hA.c0
                have hct := fun ty => hA.count ty
                have hwA := hw5.trans (hbA.mono hw5.size)
                have Hw := Lib.hid hwA
                clear hA hbA hwA
                obtain rfl : M = 0 := by rw [HM2.out, if_neg (fun e => by cases e.1)]
                clear HM2
                go_wp2_with fail
                go_ret
                exact ⟨rfl, Hw.out⟩
            · have hk2b : (kk != 2) = true := by simpa using hk2
              obtain rfl : M = 22 := by rw [HM2.out]; simp [hk2]
              clear hk2 HM2
              go_wp2_with fail
              go_ret
              exact ⟨rfl, hw5⟩
        · rw [if_pos (by simp)] at HM2
          obtain rfl : M = 22 := HM2.out
          have hl0 : 0 < (y :: l3).length := by simp
          generalize (y :: l3).length = n3 at *
          go_wp2_with fail
          go_ret
          exact ⟨rfl, hw3⟩
      · have HM2 : Hid (M = if (parT p).2 = true ∧ kindL (getR (plainL L) (parT p).1) ≠ 2 then 22 else if (getR (plainL L) p).isNone ∧ 128 ≤ (plainL L).length then 24 else 0) := by
          show _ = _
          rw [HM1.out]
          simp
        clear HM1
        go_wp2_with fail
        clear q0 x2
        refine (parent_any ⟨⟨p⟩⟩ (by show p.length ≤ _; omega) w2).mono ?_
        rintro e w4 ⟨⟨⟨t⟩⟩, b, rfl, ht, hb4⟩
        rw [show tl ⟨⟨p⟩⟩ = p from rfl, show tl ⟨⟨t⟩⟩ = t from rfl] at ht
        rw [← ht.out] at HM2
        dsimp only at HM2
        have htl : t.length ≤ 96 := by
          have h1 := congrArg Prod.fst ht.out
          dsimp only at h1
          rw [h1]
          exact parT_len p
        have hw4 := hw2.trans (hb4.mono hw2.size)
        clear ht hb4
        cases b
        · rw [if_neg (by simp)] at HM2
          have hcc := (HT.out.below hw4).c0
          have hlo := (HT.out.below hw4).look_ok p (by simp only [maxLen]; omega)
          rw [hsn, hpl] at HM2
          generalize getR L p = op at *
          rcases op with _ | ⟨ko, Ao, co, lo⟩
          · unfold leafO at hlo
            rw [show (none : Option LV).isSome = false from rfl] at hlo
            have hbA : Below w4.heap.size w4 (w4.alloc (.cells #[.int .i64 0, .slice none 0 0] 46)) := (by repeat (first | exact Below.refl _ _ | refine Below.alloc ?_ (by simp) _ | refine Below.setCell ?_ (by simp) _ | refine Below.drew ?_))
            have hA := HT.out.below (hw4.trans (hbA.mono hw4.size))
            have c5 := hA.c0
            have hct := fun ty => hA.count ty
            have hwA := hw4.trans (hbA.mono hw4.size)
            have Hw := Lib.hid hwA
            clear hA hbA hwA
            by_cases h128 : 128 ≤ L.length
            · obtain rfl : M = 24 := by rw [HM2.out, if_pos ⟨rfl, h128⟩]
              clear HM2
              go_wp2_with fail
              go_ret
              exact ⟨rfl, Hw.out⟩
            · obtain rfl : M = 0 := by rw [HM2.out, if_neg (fun e => h128 e.2)]
              clear HM2
              go_wp2_with fail
              go_ret
              exact ⟨rfl, Hw.out⟩
          · unfold leafO LV.v at hlo
            dsimp only at hlo
            rw [show (some (⟨ko, ⟨Ao, co, lo⟩⟩ : LV)).isSome = true from rfl] at hlo
            have hbA : Below w4.heap.size w4 (w4.alloc (.cells #[.int .i64 ko, .slice Ao lo.length co] 46)) := (by repeat (first | exact Below.refl _ _ | refine Below.alloc ?_ (by simp) _ | refine Below.setCell ?_ (by simp) _ | refine Below.drew ?_))
            have hA := HT.out.below (hw4.trans (hbA.mono hw4.size))
            have c5 := hA.c0
            have hct := fun ty => hA.count ty
            have hwA := hw4.trans (hbA.mono hw4.size)
            have Hw := Lib.hid hwA
            clear hA hbA hwA
            obtain rfl : M = 0 := by rw [HM2.out, if_neg (fun e => by cases e.1)]
            clear HM2
            go_wp2_with fail
            go_ret
            exact ⟨rfl, Hw.out⟩
        · rw [get_plain] at HM2
          go_wp2_with fail
          refine (treeget_any tb mo L t w4 (HT.out.below hw4) (by omega)).mono ?_
          rintro e w5 ⟨rfl, hb5⟩
          have hw5 := hw4.trans (hb5.mono hw4.size)
          clear hb5
          obtain ⟨kk, vv, hv, hkk⟩ : ∃ kk vv, leafO (getR L t) = .agg #[.int .i64 kk, vv] ∧ kindL ((getR L t).map LV.p) = kk := by
            rcases getR L t with _ | ⟨ko, Ao, co, lo⟩
            · exact ⟨0, _, rfl, rfl⟩
            · exact ⟨ko, _, rfl, rfl⟩
          rw [hv]
          rw [hkk] at HM2
          have hfk := fun W => leaf_kind kk vv W
          clear hv hkk
          by_cases hk2 : kk = 2
          · have hk2b : (kk != 2) = false := by simp [hk2]
            rw [if_neg (by simp [hk2])] at HM2
            clear hk2
            have hcc := (HT.out.below hw5).c0
            have hlo := (HT.out.below hw5).look_ok p (by simp only [maxLen]; omega)
            rw [hsn, hpl] at HM2
            generalize getR L p = op at *
            rcases op with _ | ⟨ko, Ao, co, lo⟩
            · unfold leafO at hlo
              rw [show (none : Option LV).isSome = false from rfl] at hlo
              have hbA : Below w5.heap.size w5 (w5.alloc (.cells #[.int .i64 0, .slice none 0 0] 46)) := (by repeat (first | exact Below.refl _ _ | refine Below.alloc ?_ (by simp) _ | refine Below.setCell ?_ (by simp) _ | refine Below.drew ?_))
              have hA := HT.out.below (hw5.trans (hbA.mono hw5.size))
              have c5 := hA.c0
              have hct := fun ty => hA.count ty
              have hwA := hw5.trans (hbA.mono hw5.size)
              have Hw := Lib.hid hwA
              clear hA hbA hwA
              by_cases h128 : 128 ≤ L.length
              · obtain rfl : M = 24 := by rw [HM2.out, if_pos ⟨rfl, h128⟩]
                clear HM2
                go_wp2_with fail
                go_ret
                exact ⟨rfl, Hw.out⟩
              · obtain rfl : M = 0 := by rw [HM2.out, if_neg (fun e => h128 e.2)]
                clear HM2
                go_wp2_with fail
                go_ret
                exact ⟨rfl, Hw.out⟩
            · unfold leafO LV.v at hlo
              dsimp only at hlo
              rw [show (some (⟨ko, ⟨Ao, co, lo⟩⟩ : LV)).isSome = true from rfl] at hlo
              have hbA : Below w5.heap.size w5 (w5.alloc (.cells #[.int .i64 ko, .slice Ao lo.length co] 46)) := (by repeat (first | exact Below.refl _ _ | refine Below.alloc ?_ (by simp) _ | refine Below.setCell ?_ (by simp) _ | refine Below.drew ?_))
              have hA := HT.out.below (hw5.trans (hbA.mono hw5.size))
              have c5 := hA.c0
              have hct := fun ty => hA.count ty
              have hwA := hw5.trans (hbA.mono hw5.size)
              have Hw := Lib.hid hwA
              clear hA hbA hwA
              obtain rfl : M = 0 := by rw [HM2.out, if_neg (fun e => by cases e.1)]
              clear HM2
              go_wp2_with fail
              go_ret
              exact ⟨rfl, Hw.out⟩
          · have hk2b : (kk != 2) = true := by simpa using hk2
            obtain rfl : M = 22 := by rw [HM2.out]; simp [hk2]
            clear hk2 HM2
            go_wp2_with fail
            go_ret
            exact ⟨rfl, hw5⟩
    · have hc2 : (checkN k l.length != 0) = true := by simpa using hc
      have hMc : M = checkN k l.length := by rw [HM.out]; unfold mayS; rw [if_neg (by rw [hg]; simp), if_pos hc]
      clear HM hc
      generalize checkN k l.length = C at *
      subst hMc
      go_wp2_with fail
      go_ret
      exact ⟨rfl, hw2⟩

end Go.Proofs.YtjcfphdjgagimaaGreatDoor
