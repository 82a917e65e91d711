/- name.Parent, Ups; tenderref03.Parent, Ups, Same. -/
import Derived.Test.YtffimpjjdhnajaaNameRefUnder
import Derived.Test.YtffimpjjdhnajaaNamePaste
namespace Go.Proofs.Ytffimpjjdhnajaa
open Go.RowKit

/-- the path above -/
def parT (p : List UInt8) : List UInt8 × Bool := if goodB p && decide (1 < (cutL p).length) then (pasteL (cutL p).dropLast, true) else ([], false)
theorem last_ways (s : ByteArray) : (Lib.lastIndexByte s 47 = -1 ∧ cutL (tl s) = [tl s]) ∨
    (∃ i : Nat, Lib.lastIndexByte s 47 = (i : Int) ∧ i < s.size ∧ 1 < (cutL (tl s)).length ∧ pasteL (cutL (tl s)).dropLast = tl (s.extract 0 i)) := by
  have hget : ∀ j, j < s.size → (tl s)[j]? = some (s.data[j]!) := by
    intro j hj
    have hj' : j < s.data.size := hj
    rw [List.getElem?_eq_getElem (by rw [tl_len]; exact hj), getElem!_pos s.data j hj']
    rfl
  rcases Lib.lastIndexByte_spec s 47 with ⟨h, hn⟩ | ⟨i, hi, h, hc, hn⟩
  · refine .inl ⟨h, cutL_none fun c hcm => ?_⟩
    obtain ⟨k, hk, rfl⟩ := List.getElem_of_mem hcm
    have hk' : k < s.size := by rwa [tl_len] at hk
    have := hget k hk'
    rw [List.getElem?_eq_getElem hk] at this
    injection this with this
    intro e
    refine hn k hk' ?_
    rw [← this, e]; rfl
  · have h47 : (tl s)[i]? = some 47 := by rw [hget i hi]; congr 1; exact UInt8.toNat_inj.1 (by rw [show (47 : UInt8).toNat = 47 from rfl]; omega)
    have hsp : tl s = (tl s).take i ++ 47 :: (tl s).drop (i + 1) := by
      conv => lhs; rw [← List.take_append_drop i (tl s)]
      obtain ⟨hlt, he⟩ := List.getElem?_eq_some_iff.1 h47
      rw [List.drop_eq_getElem_cons hlt, he]
    have hno : cutL ((tl s).drop (i + 1)) = [(tl s).drop (i + 1)] := by
      refine cutL_none fun c hcm => ?_
      obtain ⟨k, hk, rfl⟩ := List.getElem_of_mem hcm
      rw [List.getElem_drop]
      have hk' : i + 1 + k < s.size := by rw [List.length_drop, tl_len] at hk; omega
      have := hget _ hk'
      rw [List.getElem?_eq_getElem (by rw [tl_len]; exact hk')] at this
      injection this with this
      intro e
      refine hn (i + 1 + k) (by omega) hk' ?_
      rw [← this, e]; rfl
    refine .inr ⟨i, h, hi, ?_, ?_⟩
    · rw [hsp, cut_app, hno, List.length_append]
      have := cutL_pos ((tl s).take i)
      simp; omega
    · conv => lhs; rw [hsp, cut_app, hno]
      rw [List.dropLast_concat, paste_cut, tl_head]

set_option maxRecDepth 100000 in
set_option maxHeartbeats 400000 in
theorem parent_any (s : ByteArray) (hs : s.size ≤ 1048576) (w : World) : Calls Try.prog 21 #[.string s] w fun e w' => ∃ t b, e = .returned (.tuple #[.string t, .bool b]) ∧ Hid ((tl t, b) = parT (tl s)) ∧ Below w.heap.size w w' := by
  obtain ⟨M, hM⟩ : ∃ M, M = parT (tl s) := ⟨_, rfl⟩
  rw [← hM]
  have HX := Lib.hid (fun w => Try.strings_LastIndexByte s 47 (by omega) w)
  rcases last_ways s with ⟨h, hx⟩ | ⟨i, h, hi, hx, hp⟩
  · have HM : Hid (M = ([], false)) := by show _ = _; rw [hM]; unfold parT; rw [hx]; simp
    rw [h] at HX
    clear hM h hx
    go_enter Try.func21, Try.ntmps21
    go_wp2_with fail
    refine (HX.out _).mono ?_
    rintro e w1 ⟨rfl, hw⟩
    subst hw
    go_wp2_with fail
    go_ret2
    exact ⟨_, _, rfl, HM.out.symm, Below.refl _ _⟩
  · rw [h] at HX
    cases hg : goodB (tl s)
    · have HM : Hid (M = ([], false)) := by show _ = _; rw [hM]; unfold parT; rw [hg]; rfl
      have HC := Lib.hid (check_no s (by omega) hg)
      clear hM h hx hg hp
      go_enter Try.func21, Try.ntmps21
      go_wp2_with fail
      refine (HX.out _).mono ?_
      rintro e w1 ⟨rfl, hw⟩
      subst hw
      go_wp2_with fail
      refine (HC.out _).mono ?_
      rintro e w2 ⟨rfl, hb⟩
      go_wp2_with fail
      go_ret2
      exact ⟨_, _, rfl, HM.out.symm, hb⟩
    · have HM : Hid (M = (tl (s.extract 0 i), true)) := by show _ = _; rw [hM]; unfold parT; rw [hg, decide_eq_true hx, hp]; rfl
      have HC := Lib.hid (check_yes s (by omega) hg)
      have b1 : (i : Int) ≤ (s.size : Int) := by omega
      clear hM h hx hg hp
      go_enter Try.func21, Try.ntmps21
      go_wp2_with fail
      refine (HX.out _).mono ?_
      rintro e w1 ⟨rfl, hw⟩
      subst hw
      go_wp2_with fail
      refine (HC.out _).mono ?_
      rintro e w2 ⟨rfl, hb⟩
      go_wp2_with fail
      go_ret2
      exact ⟨_, _, rfl, HM.out.symm, hb⟩
set_option maxRecDepth 100000 in
set_option maxHeartbeats 400000 in
theorem refParent_any (s : ByteArray) (hs : s.size ≤ 1048576) (w : World) : Calls Try.prog 23 #[.string s] w fun e w' => ∃ t, e = .returned (.string t) ∧ Hid (tl t = (parT (tl s)).1) ∧ Below w.heap.size w w' := by
  obtain ⟨M, hM⟩ : ∃ M, M = (parT (tl s)).1 := ⟨_, rfl⟩
  rw [← hM]
  cases hg : goodB (tl s)
  · have HM : Hid (M = []) := by show _ = _; rw [hM]; unfold parT; rw [hg]; rfl
    have HC := Lib.hid (refGood_no s (by omega) hg)
    clear hM hg
    go_enter Try.func23, Try.ntmps23
    go_wp2_with fail
    refine (HC.out _).mono ?_
    rintro e w2 ⟨rfl, hb⟩
    go_wp2_with fail
    go_ret
    exact ⟨_, rfl, HM.out.symm, hb⟩
  · have HM : Hid (M = pasteL (cutL (tl s)).dropLast) := by
      show _ = _
      rw [hM]; unfold parT; rw [hg]
      by_cases h : 1 < (cutL (tl s)).length
      · simp [h]
      · have h1 := cutL_pos (tl s)
        have : (cutL (tl s)).dropLast = [] := List.length_eq_zero_iff.1 (by rw [List.length_dropLast]; omega)
        rw [this]; simp [h, pasteL]
    have HC := Lib.hid (refGood_yes s (by omega) hg)
    have hs96 := goodB_len hg
    rw [tl_len] at hs96
    clear hM hg
    go_enter Try.func23, Try.ntmps23
    go_wp2_with fail
    refine (HC.out _).mono ?_
    rintro e w1 ⟨rfl, hb⟩
    go_wp2_with fail
    refine (refCut_any s (by omega) _).mono ?_
    rintro e w2 ⟨A, c, l, rfl, hl, hst, hb2⟩
    replace hb2 := bthen hb hb2
    rw [← hl.out] at HM
    have hl0 : 0 < l.length := by rw [hl.out]; exact cutL_pos _
    have hll : l.length ≤ 97 := by
      have := cutL_len (tl s)
      rw [hl.out]
      rw [tl_len] at this
      omega
    have hpl : (pasteL l.dropLast).length ≤ 1048576 := by
      have := paste_take_le l (l.length - 1)
      rw [← List.dropLast_eq_take] at this
      have h2 := congrArg (fun x => (pasteL x).length) hl.out
      rw [paste_cut, tl_len] at h2
      omega
    obtain ⟨m, hm⟩ : ∃ m : Nat, l.length = m + 1 := ⟨l.length - 1, by omega⟩
    have hrd := (Sts.rd hst).take (k := m) (by omega)
    have hdl : Hid ((l.map stv).take (m * 1) = l.dropLast.map stv) := by show _ = _; rw [List.dropLast_eq_take, Nat.mul_one, List.map_take, show l.length - 1 = m by omega]
    rw [hdl.out] at hrd
    have hdn : Hid (m = l.dropLast.length) := by show _ = _; rw [List.length_dropLast]; omega
    have hroom := Row.room hst
    have hcap := Row.cap hst
    have hmx : maxLen = 9223372036854775807 := rfl
    rw [hmx] at hcap
    have b0 : (l.length : Int) - 1 = (m : Int) := by omega
    have hw1 : IntKind.i64.wrap ((l.length : Int) - 1) = (m : Int) := by rw [b0]; exact IntWalk.i64_in _ (by omega)
    have b1 : (0 : Int) ≤ (m : Int) := by omega
    have b2 : (m : Int) ≤ (c : Int) := by omega
    have HM1 := Lib.hid hm
    have HRD := Lib.hid hrd
    clear hrd hm hl hdl
    go_wp2_with fail
    rw [hdn.out]
    refine (paste_any A _ l.dropLast _ w2 (by rw [← hdn.out]; exact HRD.out) (by rw [← hdn.out]; omega) hpl).mono ?_
    rintro e w3 ⟨t, rfl, ht, hq⟩
    go_wp2_with fail
    go_ret
    exact ⟨t, rfl, ht.out.trans HM.out.symm, bthen hb2 hq.below⟩

/-- the paths above -/
def upsL (p : List UInt8) : List (List UInt8) := if goodB p then (List.range ((cutL p).length - 1)).map fun n => pasteL ((cutL p).take (n + 1)) else []
/-- so far -/
def upsTo (p : List UInt8) (k : Nat) : List (List UInt8) := (List.range k).map fun n => pasteL ((cutL p).take (n + 1))
theorem upsTo_len (p : List UInt8) (k : Nat) : (upsTo p k).length = k := by simp [upsTo]
theorem upsTo_snoc (p : List UInt8) (k : Nat) : upsTo p (k + 1) = upsTo p k ++ [pasteL ((cutL p).take (k + 1))] := by simp [upsTo, List.range_succ]
/-- at a stroke -/
theorem stroke_at {s : ByteArray} {i : Nat} (hi : i < s.size) (hc : s[i] = 47) : pasteL ((cutL (tl s)).take (cutL ((tl s).take i)).length) = (tl s).take i ∧ (cutL ((tl s).take (i + 1))).length = (cutL ((tl s).take i)).length + 1 := by
  have ht := take_one s i hi
  have hsp : tl s = (tl s).take i ++ 47 :: (tl s).drop (i + 1) := by
    conv => lhs; rw [← List.take_append_drop i (tl s)]
    rw [List.drop_eq_getElem_cons (by rw [tl_len]; exact hi)]
    congr 2
  constructor
  · conv => lhs; rw [hsp, cut_app]
    rw [show (List.take i (List.take i (tl s) ++ 47 :: List.drop (i + 1) (tl s))) = (tl s).take i by rw [← hsp], List.take_left' rfl, paste_cut]
  · rw [ht, cutL_snoc, if_pos hc, List.length_append]; rfl
theorem no_stroke {s : ByteArray} {i : Nat} (hi : i < s.size) (hc : s[i] ≠ 47) : (cutL ((tl s).take (i + 1))).length = (cutL ((tl s).take i)).length := by
  rw [take_one s i hi, cutL_snoc, if_neg hc, List.length_append, List.length_dropLast]
  have := cutL_pos ((tl s).take i)
  simp; omega
end Go.Proofs.Ytffimpjjdhnajaa
