/- name.User, Under, Compare. -/
import Derived.Test.YtffimpjjdhnajaaNameCheck
import Derived.LoopTactic
namespace Go.Proofs.Ytffimpjjdhnajaa
open Go.RowKit

theorem goodB_len {l : List UInt8} (h : goodB l = true) : l.length ≤ 96 := by
  unfold goodB at h
  simp only [Bool.and_eq_true, decide_eq_true_eq] at h
  exact h.1.1
theorem goodB_ne {l : List UInt8} (h : goodB l = true) : l ≠ [] := by
  rintro rfl
  revert h
  decide
theorem check_yes (s : ByteArray) (hs : s.size ≤ 9223372036854775807) (h : goodB (tl s) = true) (w : World) : Calls Try.prog 28 #[.string s] w fun e w' => e = .returned (.int .i64 0) ∧ Below w.heap.size w w' := by
  have := check_any s hs w
  rwa [if_pos h] at this
theorem check_no (s : ByteArray) (hs : s.size ≤ 9223372036854775807) (h : goodB (tl s) = false) (w : World) : Calls Try.prog 28 #[.string s] w fun e w' => e = .returned (.int .i64 23) ∧ Below w.heap.size w w' := by
  have := check_any s hs w
  rwa [if_neg (by rw [h]; simp)] at this
/-- is it a user's? -/
def userB (l : List UInt8) : Bool := goodB l && !(l.head? == some 126)

theorem user_any (s : ByteArray) (hs : s.size ≤ 9223372036854775807) (w : World) : Calls Try.prog 29 #[.string s] w fun e w' => e = .returned (.bool (userB (tl s))) ∧ Below w.heap.size w w' := by
  cases h : goodB (tl s)
  · have hr : userB (tl s) = false := by unfold userB; rw [h]; rfl
    rw [hr]
    have HC := Lib.hid (check_no s hs h)
    clear hr h
    go_enter Try.func29, Try.ntmps29
    go_wp2_with fail
    refine (HC.out _).mono ?_
    rintro e w1 ⟨rfl, hb⟩
    go_wp2_with fail
    go_ret
    exact ⟨rfl, hb⟩
  · have HC := Lib.hid (check_yes s hs h)
    have h0 : 0 < s.size := by have := List.length_pos_iff.2 (goodB_ne h); rwa [tl_len] at this
    obtain ⟨R, hR⟩ : ∃ R, R = userB (tl s) := ⟨_, rfl⟩
    have HR := Lib.hid hR
    have HG := Lib.hid h
    rw [← hR]
    clear hR h
    go_enter Try.func29, Try.ntmps29
    go_wp2_with fail
    refine (HC.out _).mono ?_
    rintro e w1 ⟨rfl, hb⟩
    go_wp2_with fail
    go_ret
    refine ⟨ret_b ?_, hb⟩
    rw [HR.out]
    unfold userB
    rw [HG.out]
    have e : (tl s).head? = some s[0] := by
      obtain ⟨⟨l⟩⟩ := s
      cases l with
      | nil => exact (Nat.lt_irrefl 0 h0).elim
      | cons c l => rfl
    rw [e, Bool.eq_iff_iff]
    generalize s[0] = c
    by_cases hc : c = 126
    · subst hc; decide
    · have h2 : ¬ c.toNat = 126 := fun e => hc (UInt8.toNat_inj.1 e)
      simp [hc]
      omega
/-- one part and whether there is more -/
structure CutTo (s x r : ByteArray) (m : Bool) : Prop where
  call : ∀ w, Calls Try.prog 59 #[.string s, .string ⟨#[47]⟩] w fun e w' => e = .returned (.tuple #[.string x, .string r, .bool m]) ∧ Qt w w'
  eq : cutL (tl s) = tl x :: (if m then cutL (tl r) else [])
  size : if m then r.size < s.size else True
  le : x.size ≤ s.size
theorem cut_to (s : ByteArray) (hs : s.size ≤ 9223372036854775807) : ∃ x r m, CutTo s x r m := by
  rcases cut_ways s with ⟨hi, hx⟩ | ⟨i, hi, hit, hx⟩
  · exact ⟨s, ⟨#[]⟩, false, fun w => strCut_none s w hi, by simpa using hx, by simp, Nat.le_refl _⟩
  · exact ⟨_, _, true, fun w => strCut_at s i w hi hit hs, by simpa using hx, by simp; omega, by simp; omega⟩
/-- test's facts of two texts -/
theorem neq_yes {s t : ByteArray} (h : s = t) : (!s.toList == t.toList) = false := by subst h; simp
theorem neq_no {s t : ByteArray} (h : s ≠ t) : (!s.toList == t.toList) = true := by
  simp only [ByteArray.toList_eq, Bool.not_eq_true', beq_eq_false_iff_ne, ne_eq]
  exact fun e => h (tl_inj e)
theorem eq_yes {s t : ByteArray} (h : s = t) : (s.toList == t.toList) = true := by subst h; simp
theorem eq_no {s t : ByteArray} (h : s ≠ t) : (s.toList == t.toList) = false := by
  simp only [ByteArray.toList_eq, beq_eq_false_iff_ne, ne_eq]
  exact fun e => h (tl_inj e)
def strOf : Value → Nat | .string s => s.size | _ => 0
set_option maxHeartbeats 1000000 in
theorem compare_any (a b : ByteArray) (ha : a.size ≤ 9223372036854775807) (hb : b.size ≤ 9223372036854775807) (w : World) : Calls Try.prog 15 #[.string a, .string b] w fun e w' => e = .returned (.int .i64 (cmpT (tl a) (tl b))) ∧ Qt w w' := by
  go_enter Try.func15, Try.ntmps15
  go_wp2_with fail
  go_loopw [0, 1] (fun av bv wr => ∃ x y : ByteArray, av = .string x ∧ bv = .string y ∧ x.size ≤ a.size ∧ y.size ≤ b.size ∧ Hid (cmpT (tl x) (tl y) = cmpT (tl a) (tl b)) ∧ Qt w wr) (fun av _ _ => strOf av)
  case atStart => exact ⟨a, b, rfl, rfl, Nat.le_refl _, Nat.le_refl _, rfl, Qt.refl _⟩
  case round =>
    obtain ⟨x, y, rfl, rfl, hxa, hyb, hC, hq⟩ := hrel
    obtain ⟨x1, xr, xm, kx⟩ := cut_to x (by omega)
    obtain ⟨y1, yr, ym, ky⟩ := cut_to y (by omega)
    have ex := kx.eq
    have ey := ky.eq
    have sx := kx.size
    have sy := ky.size
    have hR : cmpT (tl x) (tl y) = if cmpB (tl x1) (tl y1) = 0 then cmpP (if xm then cutL (tl xr) else []) (if ym then cutL (tl yr) else []) else cmpB (tl x1) (tl y1) := by
      unfold cmpT
      rw [ex, ey]
      rfl
    have HR := Lib.hid (hC.out.symm.trans hR)
    clear hR ex ey hC
    by_cases h1 : x1 = y1
    · subst h1
      rw [if_pos (cmpB_self _)] at HR
      have hy1 := neq_yes (rfl : x1 = x1)
      have HF : ∀ m : Bool, Hid ((if m = true then (1 : Int) else 0) = if m then 1 else 0) := fun _ => rfl
      by_cases hm : xm = true ∧ ym = true
      · obtain ⟨rfl, rfl⟩ := hm
        rw [if_pos rfl] at sx sy
        go_wp2_with fail
        refine (kx.call _).mono ?_
        rintro e w1 ⟨rfl, n1, rfl⟩
        go_wp2_with fail
        refine (ky.call _).mono ?_
        rintro e w1 ⟨rfl, n2, rfl⟩
        go_wp2_with fail
        go_roundw
        case rel => exact ⟨xr, yr, rfl, rfl, by omega, by omega, HR.out.symm, hq.trans ⟨n1 + n2, rfl⟩⟩
        case measure => simp [strOf]; exact sx
      · have HS : Hid (cmpP (if xm = true then cutL (tl xr) else []) (if ym = true then cutL (tl yr) else []) = (if xm = true then 1 else 0) - (if ym = true then 1 else 0)) := by
          show _ = _
          cases xm <;> cases ym
          · rfl
          · obtain ⟨z, zs, e⟩ := List.exists_cons_of_ne_nil (cutL_ne (tl yr))
            simp [cmpP, cmpL, e]
          · obtain ⟨z, zs, e⟩ := List.exists_cons_of_ne_nil (cutL_ne (tl xr))
            simp [cmpP, cmpL, e]
          · simp at hm
        have HR2 := Lib.hid (HR.out.trans HS.out)
        clear HR HS sx sy
        cases xm <;> cases ym
        case true.true => simp at hm
        all_goals
          clear hm
          go_wp2_with fail
          refine (kx.call _).mono ?_
          rintro e w1 ⟨rfl, n1, rfl⟩
          go_wp2_with fail
          refine (ky.call _).mono ?_
          rintro e w1 ⟨rfl, n2, rfl⟩
          go_wp2_with (go_at_call 61; refine (at_any _ _).mono ?_; rintro e w1 ⟨rfl, rfl⟩)
          go_ret
          exact ⟨ret_i (by rw [HR2.out]; rfl), hq.trans ⟨n1 + n2, rfl⟩⟩
    · have hne : cmpB (tl x1) (tl y1) ≠ 0 := fun e => h1 (tl_inj ((ordB.eq _ _).1 e))
      rw [if_neg hne] at HR
      have hn := neq_no h1
      clear hne sx sy
      go_wp2_with fail
      refine (kx.call _).mono ?_
      rintro e w1 ⟨rfl, n1, rfl⟩
      go_wp2_with fail
      refine (ky.call _).mono ?_
      rintro e w1 ⟨rfl, n2, rfl⟩
      go_wp2_with fail
      refine (cmpStr_any _ _ _).mono ?_
      rintro e w1 ⟨rfl, rfl⟩
      go_wp2_with fail
      go_ret
      exact ⟨ret_i HR.out.symm, hq.trans ⟨n1 + n2, rfl⟩⟩

theorem under_short (s t : ByteArray) : tl (s ++ t) = tl s ++ tl t := by simp [tl]
theorem under_any (p top : ByteArray) (hp : p.size ≤ 9223372036854775807) (ht : top.size ≤ 9223372036854775807) (w : World) : Calls Try.prog 17 #[.string p, .string top] w fun e w' => e = .returned (.bool (underB (tl p) (tl top))) ∧ Below w.heap.size w w' := by
  cases h1 : goodB (tl p)
  · have hr : underB (tl p) (tl top) = false := by unfold underB; rw [h1]; rfl
    rw [hr]
    have HC := Lib.hid (check_no p hp h1)
    clear hr h1
    go_enter Try.func17, Try.ntmps17
    go_wp2_with fail
    refine (HC.out _).mono ?_
    rintro e w1 ⟨rfl, hb⟩
    go_wp2_with fail
    go_ret
    exact ⟨rfl, hb⟩
  · cases h2 : goodB (tl top)
    · have hr : underB (tl p) (tl top) = false := by unfold underB; rw [h1, h2]; rfl
      rw [hr]
      have HC := Lib.hid (check_yes p hp h1)
      have HD := Lib.hid (check_no top ht h2)
      clear hr h1 h2
      go_enter Try.func17, Try.ntmps17
      go_wp2_with fail
      refine (HC.out _).mono ?_
      rintro e w1 ⟨rfl, hb⟩
      go_wp2_with fail
      refine (HD.out _).mono ?_
      rintro e w2 ⟨rfl, hb2⟩
      go_wp2_with fail
      go_ret
      exact ⟨rfl, bthen hb hb2⟩
    · obtain ⟨R, hR⟩ : ∃ R, R = underB (tl p) (tl top) := ⟨_, rfl⟩
      have hr : R = preB (tl p) (tl top) := by rw [hR]; unfold underB; rw [h1, h2]; rfl
      rw [← hR]
      have HR := Lib.hid hr
      have HC := Lib.hid (check_yes p hp h1)
      have HD := Lib.hid (check_yes top ht h2)
      have hts : top.size ≤ 96 := by have := goodB_len h2; rwa [tl_len] at this
      clear hr hR h1 h2
      go_enter Try.func17, Try.ntmps17
      go_wp2_with fail
      refine (HC.out _).mono ?_
      rintro e w1 ⟨rfl, hb⟩
      go_wp2_with fail
      refine (HD.out _).mono ?_
      rintro e w2 ⟨rfl, hb2⟩
      go_wp2_with fail
      refine (Try.strings_HasPrefix _ _ _).mono ?_
      rintro e w3 ⟨rfl, rfl⟩
      go_wp2_with fail
      go_ret
      refine ⟨ret_b ?_, bthen hb hb2⟩
      rw [HR.out]
      unfold preB Lib.hasPrefix
      rfl
end Go.Proofs.Ytffimpjjdhnajaa
