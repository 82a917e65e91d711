/- tenderref03: less, bytes, Compare. -/
import Derived.Test.YtffimpjjdhnajaaNameRef
namespace Go.Proofs.Ytffimpjjdhnajaa
open Go.RowKit

/-- how two numbers stand -/
def cmpN (a b : Int) : Int := if a < b then -1 else if b < a then 1 else 0
theorem less_any (a b : Int) (w : World) : Calls Try.prog 63 #[.int .i64 a, .int .i64 b] w fun e w' => e = .returned (.int .i64 (cmpN a b)) ∧ w = w' := by
  obtain ⟨R, hR⟩ : ∃ R, R = cmpN a b := ⟨_, rfl⟩
  rw [← hR]
  have HR := Lib.hid hR
  clear hR
  go_enter Try.func63, Try.ntmps63
  go_wp2_with fail
  all_goals
    go_ret
    refine ⟨ret_i ?_, rfl⟩
    rw [HR.out]
    unfold cmpN
    first
      | (rw [if_pos (by assumption)])
      | (rw [if_neg (by omega), if_pos (by assumption)])
      | (rw [if_neg (by omega), if_neg (by omega)])
/-- two texts that are alike so far stand as what is left of them -/
theorem cmpB_take : ∀ (i : Nat) (a b : List UInt8), a.take i = b.take i → i ≤ a.length → i ≤ b.length → cmpB a b = cmpB (a.drop i) (b.drop i)
  | 0, _, _, _, _, _ => rfl
  | i + 1, [], _, _, h, _ => by simp at h
  | i + 1, _ :: _, [], _, _, h => by simp at h
  | i + 1, x :: a, y :: b, h, ha, hb => by
    rw [List.take_succ_cons, List.take_succ_cons] at h
    injection h with h1 h2
    subst h1
    have ih := cmpB_take i a b h2 (by simpa using ha) (by simpa using hb)
    rw [List.drop_succ_cons, List.drop_succ_cons, ← ih]
    show cmpL cmp1 (x :: a) (x :: b) = _
    rw [cmpL, if_pos ((ord1.eq x x).2 rfl)]
    rfl
theorem cmpP_take : ∀ (i : Nat) (a b : List (List UInt8)), a.take i = b.take i → i ≤ a.length → i ≤ b.length → cmpP a b = cmpP (a.drop i) (b.drop i)
  | 0, _, _, _, _, _ => rfl
  | i + 1, [], _, _, h, _ => by simp at h
  | i + 1, _ :: _, [], _, _, h => by simp at h
  | i + 1, x :: a, y :: b, h, ha, hb => by
    rw [List.take_succ_cons, List.take_succ_cons] at h
    injection h with h1 h2
    subst h1
    have ih := cmpP_take i a b h2 (by simpa using ha) (by simpa using hb)
    rw [List.drop_succ_cons, List.drop_succ_cons, ← ih]
    show cmpL cmpB (x :: a) (x :: b) = _
    rw [cmpL, if_pos (cmpB_self x)]
    rfl
theorem cmpL_ends {α : Type} (c : α → α → Int) (a b : List α) (h : a = [] ∨ b = []) : cmpL c a b = cmpN a.length b.length := by
  rcases h with rfl | rfl
  · cases b with
    | nil => rfl
    | cons y b => simp [cmpL, cmpN]
  · cases a with
    | nil => rfl
    | cons y b => simp [cmpL, cmpN]; omega
theorem cmpN_add (a b k : Int) : cmpN (a + k) (b + k) = cmpN a b := by
  unfold cmpN
  split <;> split <;> first | rfl | omega | (split <;> first | rfl | omega)
theorem cmpB_hd {x y : UInt8} {a b : List UInt8} (h : cmp1 x y ≠ 0) : cmpB (x :: a) (y :: b) = cmp1 x y := by
  show cmpL cmp1 _ _ = _
  rw [cmpL, if_neg h]

set_option maxRecDepth 100000 in
set_option maxHeartbeats 1000000 in
theorem bytes_any (s t : ByteArray) (hs : s.size ≤ 1048576) (_ : t.size ≤ 1048576) (w : World) : Calls Try.prog 62 #[.string s, .string t] w fun e w' => e = .returned (.int .i64 (cmpB (tl s) (tl t))) ∧ Qt w w' := by
  obtain ⟨R, hR⟩ : ∃ R, R = cmpB (tl s) (tl t) := ⟨_, rfl⟩
  rw [← hR]
  have HR := Lib.hid hR
  clear hR
  go_enter Try.func62, Try.ntmps62
  go_wp2_with fail
  go_loopw [5] (fun iv wr => ∃ i : Nat, i ≤ s.size ∧ i ≤ t.size ∧ iv = .int .i64 (i : Int) ∧ Hid ((tl s).take i = (tl t).take i) ∧ Qt w wr) (fun iv _ => s.size - (intOf iv).toNat)
  case atStart => exact ⟨0, Nat.zero_le _, Nat.zero_le _, rfl, rfl, Qt.refl _⟩
  case round =>
    obtain ⟨i, hi, hj, rfl, hz, hq⟩ := hrel
    by_cases hlt : i < s.size ∧ i < t.size
    · obtain ⟨h1, h2⟩ := hlt
      have g1 : (tl s)[i]? = some s[i] := by rw [List.getElem?_eq_getElem (by rw [tl_len]; exact h1)]; rfl
      have g2 : (tl t)[i]? = some t[i] := by rw [List.getElem?_eq_getElem (by rw [tl_len]; exact h2)]; rfl
      have d1 : (tl s).drop i = s[i] :: (tl s).drop (i + 1) := by rw [List.drop_eq_getElem_cons (by rw [tl_len]; exact h1)]; rfl
      have d2 : (tl t).drop i = t[i] :: (tl t).drop (i + 1) := by rw [List.drop_eq_getElem_cons (by rw [tl_len]; exact h2)]; rfl
      have HC : Hid (∀ v, cmp1 s[i] t[i] = v → v ≠ 0 → R = v) := by
        intro v hv h0
        rw [HR.out, cmpB_take i _ _ hz.out (by rw [tl_len]; omega) (by rw [tl_len]; omega), d1, d2, cmpB_hd (by rw [hv]; exact h0), hv]
      have HN : Hid (s[i] = t[i] → (tl s).take (i + 1) = (tl t).take (i + 1)) := by
        intro e
        rw [List.take_add_one, List.take_add_one, hz.out, g1, g2, e]
      clear g1 g2 d1 d2 hz
      go_wp2_with fail
      go_quiet (fail)
      go_wp2_with fail
      · have hl : s[i].toNat < t[i].toNat := by assumption
        go_ret
        refine ⟨ret_i (HC.out _ (by unfold cmp1; rw [if_pos (by omega)]) (by omega)).symm, hq.trans ⟨_, rfl⟩⟩
      · have hl : ¬ s[i].toNat < t[i].toNat := by assumption
        go_quiet (fail)
        go_wp2_with fail
        · have hl2 : t[i].toNat < s[i].toNat := by assumption
          go_ret
          refine ⟨ret_i (HC.out _ (by unfold cmp1; rw [if_neg (by omega), if_pos (by omega)]) (by omega)).symm, (hq.trans ⟨_, rfl⟩).trans ⟨_, rfl⟩⟩
        · have hl2 : ¬ t[i].toNat < s[i].toNat := by assumption
          go_roundw
          case rel => exact ⟨i + 1, h1, h2, by go_num, HN.out (UInt8.toNat_inj.1 (by omega)), hq.trans ⟨_, rfl⟩⟩
          case measure => simp [intOf]; omega
    · have hor : (s.size : Int) ≤ (i : Int) ∨ (i : Int) < (s.size : Int) ∧ (t.size : Int) ≤ (i : Int) := by omega
      rcases hor with h1 | ⟨h1, h2⟩
      all_goals
        clear hlt
        go_wp2_with (go_at_call 63; refine (less_any _ _ _).mono ?_; rintro e w2 ⟨rfl, rfl⟩)
        go_ret
        refine ⟨ret_i ?_, hq⟩
        have e := HR.out
        rw [cmpB_take i _ _ hz.out (by rw [tl_len]; omega) (by rw [tl_len]; omega)] at e
        rw [e]
        unfold cmpB
        rw [cmpL_ends cmp1 _ _ (by
          rcases (show s.size ≤ i ∨ t.size ≤ i by omega) with h | h
          · exact .inl (List.drop_of_length_le (by rw [tl_len]; exact h))
          · exact .inr (List.drop_of_length_le (by rw [tl_len]; exact h))), List.length_drop, List.length_drop, tl_len, tl_len]
        have := cmpN_add ((s.size - i : Nat) : Int) ((t.size - i : Nat) : Int) (i : Int)
        rw [← this]
        congr 1 <;> omega

/-- how two rows stand when they are alike so far and then part -/
theorem cmpP_at {i : Nat} {a b : List (List UInt8)} {x y : List UInt8} (h : a.take i = b.take i) (hx : a[i]? = some x) (hy : b[i]? = some y) (hne : cmpB x y ≠ 0) : cmpP a b = cmpB x y := by
  obtain ⟨h1, rfl⟩ := List.getElem?_eq_some_iff.1 hx
  obtain ⟨h2, rfl⟩ := List.getElem?_eq_some_iff.1 hy
  rw [cmpP_take i a b h (by omega) (by omega), List.drop_eq_getElem_cons h1, List.drop_eq_getElem_cons h2]
  show cmpL cmpB _ _ = _
  rw [cmpL, if_neg hne]

set_option maxRecDepth 100000 in
set_option maxHeartbeats 1000000 in
theorem refCompare_any (s t : ByteArray) (hs : s.size ≤ 1048576) (ht : t.size ≤ 1048576) (w : World) : Calls Try.prog 16 #[.string s, .string t] w fun e w' => e = .returned (.int .i64 (cmpT (tl s) (tl t))) ∧ Below w.heap.size w w' := by
  obtain ⟨R, hR⟩ : ∃ R, R = cmpT (tl s) (tl t) := ⟨_, rfl⟩
  rw [← hR]
  have HR := Lib.hid hR
  clear hR
  go_enter Try.func16, Try.ntmps16
  go_wp2_with fail
  refine (refCut_any s hs _).mono ?_
  rintro e w1 ⟨A, c, x, rfl, hx, hsx, hb⟩
  go_wp2_with fail
  refine (refCut_any t ht _).mono ?_
  rintro e w2 ⟨A', c', y, rfl, hy, hsy, hb2⟩
  replace hsx := hsx.below hb2
  have hbb := bthen hb hb2
  have hxl : x.length ≤ 1048577 := by
    have := cutL_len (tl s)
    rw [hx.out]
    rw [tl_len] at this
    omega
  have hyl : y.length ≤ 1048577 := by
    have := cutL_len (tl t)
    rw [hy.out]
    rw [tl_len] at this
    omega
  have hxm : ∀ z ∈ x, z.length ≤ 1048576 := by
    intro z hz
    rw [hx.out] at hz
    have := cut_mem_len _ _ hz
    rw [tl_len] at this
    omega
  have hym : ∀ z ∈ y, z.length ≤ 1048576 := by
    intro z hz
    rw [hy.out] at hz
    have := cut_mem_len _ _ hz
    rw [tl_len] at this
    omega
  have HR2 : Hid (R = cmpP x y) := by show _ = _; rw [HR.out, hx.out, hy.out]; rfl
  clear HR hx hy hb hb2
  go_wp2_with fail
  go_loopw [7] (fun iv wr => ∃ i : Nat, i ≤ x.length ∧ i ≤ y.length ∧ iv = .int .i64 (i : Int) ∧ Hid (x.take i = y.take i) ∧ Qt w2 wr) (fun iv _ => x.length - (intOf iv).toNat)
  case atStart => exact ⟨0, Nat.zero_le _, Nat.zero_le _, rfl, rfl, Qt.refl _⟩
  case round =>
    obtain ⟨i, hi, hj, rfl, hz, hq⟩ := hrel
    by_cases hlt : i < x.length ∧ i < y.length
    · obtain ⟨h1, h2⟩ := hlt
      obtain ⟨xi, hxi⟩ : ∃ z, x[i]? = some z := ⟨_, List.getElem?_eq_getElem h1⟩
      obtain ⟨yi, hyi⟩ : ∃ z, y[i]? = some z := ⟨_, List.getElem?_eq_getElem h2⟩
      obtain ⟨g, off, rfl, hgb, hgl, hcell, hfz⟩ := (hsx.below hq.below).get hxi
      obtain ⟨g', off', rfl, hgb', hgl', hcell', hfz'⟩ := (hsy.below hq.below).get hyi
      obtain ⟨C, hC⟩ : ∃ C, C = cmpB xi yi := ⟨_, rfl⟩
      have HB : Hid (∀ w, Calls Try.prog 62 #[.string ⟨⟨xi⟩⟩, .string ⟨⟨yi⟩⟩] w fun e w' => e = .returned (.int .i64 C) ∧ Qt w w') := by
        intro w
        rw [hC]
        exact bytes_any ⟨⟨xi⟩⟩ ⟨⟨yi⟩⟩ (hxm _ (List.mem_of_getElem? hxi)) (hym _ (List.mem_of_getElem? hyi)) w
      have HC : Hid (C ≠ 0 → R = C) := by
        intro h0
        rw [HR2.out, cmpP_at hz.out hxi hyi (by rw [← hC]; exact h0), hC]
      have HN : Hid (C = 0 → x.take (i + 1) = y.take (i + 1)) := by
        intro e
        rw [hC] at e
        rw [List.take_add_one, List.take_add_one, hz.out, hxi, hyi, (ordB.eq _ _).1 e]
      clear hxi hyi hC hz hfz hfz'
      unfold stv at hcell hcell'
      go_wp2_with fail
      go_quiet ((go_at_call 62; exact Calls.quiet_of (HB.out _)))
      by_cases hC0 : C = 0
      · have HN2 := Lib.hid (HN.out hC0)
        subst hC0
        go_wp2_with fail
        go_roundw
        case rel => exact ⟨i + 1, h1, h2, by go_num, HN2.out, hq.trans ⟨_, rfl⟩⟩
        case measure => simp [intOf]; omega
      · have HN2 := Lib.hid (HC.out hC0)
        have hne : (C == 0) = false := by simpa using hC0
        have hne2 : (C != 0) = true := by simpa using hC0
        go_wp2_with fail
        go_ret
        exact ⟨ret_i HN2.out.symm, hbb.trans ((hq.trans ⟨_, rfl⟩).below.mono hbb.size)⟩
    · have hor : (x.length : Int) ≤ (i : Int) ∨ (i : Int) < (x.length : Int) ∧ (y.length : Int) ≤ (i : Int) := by omega
      rcases hor with h1 | ⟨h1, h2⟩
      all_goals
        clear hlt
        go_wp2_with (go_at_call 63; refine (less_any _ _ _).mono ?_; rintro e w2 ⟨rfl, rfl⟩)
        go_ret
        refine ⟨ret_i ?_, hbb.trans (hq.below.mono hbb.size)⟩
        have e := HR2.out
        rw [cmpP_take i _ _ hz.out (by omega) (by omega)] at e
        rw [e]
        unfold cmpP
        rw [cmpL_ends cmpB _ _ (by
          rcases (show x.length ≤ i ∨ y.length ≤ i by omega) with h | h
          · exact .inl (List.drop_of_length_le h)
          · exact .inr (List.drop_of_length_le h)), List.length_drop, List.length_drop]
        have := cmpN_add ((x.length - i : Nat) : Int) ((y.length - i : Nat) : Int) (i : Int)
        rw [← this]
        congr 1 <;> omega
end Go.Proofs.Ytffimpjjdhnajaa
