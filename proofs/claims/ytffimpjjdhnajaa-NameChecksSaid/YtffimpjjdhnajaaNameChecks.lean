/- NameChecks is true for every input: whether any text is a path, and a user's, its parts, and how many, are the document's; parts make the path that they say, if it is one. No condition beyond the row's own. -/
import Derived.Test.YtffimpjjdhnajaaNameJoin
import Derived.Test.YtffimpjjdhnajaaNameRefUser
import Derived.Test.YtffimpjjdhnajaaNameUps2
import Derived.Test.YtffimpjjdhnajaaNameLives
namespace Go.Proofs.Ytffimpjjdhnajaa
open Go.RowKit

theorem no_all {l : List (List UInt8)} : l.all (fun x => !x.contains 47) = true ↔ ∀ x ∈ l, ∀ c ∈ x, c ≠ 47 := by
  rw [List.all_eq_true]
  constructor
  · intro h x hx c hc e
    have := h x hx
    rw [Bool.not_eq_true', List.contains_eq_mem, decide_eq_false_iff_not] at this
    exact this (e ▸ hc)
  · intro h x hx
    rw [Bool.not_eq_true', List.contains_eq_mem, decide_eq_false_iff_not]
    intro hc
    exact h x hx 47 hc rfl
theorem join_eq (l : List (List UInt8)) : joinL l = if goodB (pasteL l) && (cutL (pasteL l) == l) then pasteL l else [] := by
  unfold joinL
  cases hg : goodB (pasteL l)
  · simp
  · have hne : l ≠ [] := by rintro rfl; exact goodB_ne hg rfl
    by_cases h : l.all (fun x => !x.contains 47) = true
    · rw [h, cut_paste l hne (no_all.1 h)]; simp
    · have h2 : ¬ cutL (pasteL l) = l := fun e => h (no_all.2 (by rw [← e]; exact cut_no (pasteL l)))
      rw [Bool.not_eq_true] at h
      rw [h, show (cutL (pasteL l) == l) = false by rw [beq_eq_false_iff_ne]; exact h2]; simp
theorem join_cut {p : List UInt8} (h : goodB p = true) : joinL (cutL p) = p := by
  rw [join_eq, paste_cut, h]; simp
def sumS (l : List (List UInt8)) : Nat := (l.map List.length).sum
theorem paste_sum : ∀ l : List (List UInt8), (pasteL l).length ≤ sumS l + l.length
  | [] => by simp [pasteL]
  | [x] => by simp [pasteL, sumS]
  | x :: y :: l => by
    have ih := paste_sum (y :: l)
    rw [pasteL]
    unfold sumS at *
    simp only [List.length_append, List.length_cons, List.map_cons, List.sum_cons] at ih ⊢
    omega
theorem sumS_take (l : List (List UInt8)) (i : Nat) (hi : i < l.length) : sumS (l.take (i + 1)) = sumS (l.take i) + l[i].length := by
  unfold sumS
  rw [List.take_succ_eq_append_getElem hi, List.map_append, List.sum_append]
  simp
theorem sumS_le (K : Nat) : ∀ (l : List (List UInt8)), (∀ o ∈ l, o.length ≤ K) → sumS l ≤ l.length * K
  | [], _ => by simp [sumS]
  | o :: l, h => by
    have h1 := h o (by simp)
    have h2 := sumS_le K l (fun o ho => h o (by simp [ho]))
    simp only [sumS, List.map_cons, List.sum_cons, List.length_cons, Nat.add_mul] at h2 ⊢
    omega
theorem sumS_take_le (K : Nat) (l : List (List UInt8)) (i : Nat) (h : ∀ o ∈ l, o.length ≤ K) : sumS (l.take i) ≤ i * K := by
  have h1 := sumS_le K (l.take i) (fun o ho => h o (List.mem_of_mem_take ho))
  have h2 : (l.take i).length ≤ i := List.length_take_le _ _
  have h3 : (l.take i).length * K ≤ i * K := Nat.mul_le_mul_right _ h2
  omega
/-- the sum so far: right while few have been seen -/
def SeenS (M : Nat) (l : List (List UInt8)) (i : Nat) (s : Int) : Prop := i ≤ M → s = (sumS (l.take i) : Int)
theorem seenS_step {M : Nat} {l : List (List UInt8)} {i : Nat} {s : Int} (hM : M ≤ 1000) (hs : SeenS M l i s) (hi : i < l.length) (h : ∀ o ∈ l, o.length ≤ 140737488355328) : SeenS M l (i + 1) (wrap64 (s + (l[i].length : Int))) := by
  intro hi2
  have e := hs (by omega)
  have h1 := sumS_take_le 140737488355328 l (i + 1) h
  have h2 := sumS_take l i hi
  have h3 : (i + 1) * 140737488355328 ≤ 1001 * 140737488355328 := Nat.mul_le_mul_right _ (by omega)
  rw [h2] at h1 ⊢
  rw [e, IntWalk.wrap64_in _ ⟨by omega, by omega⟩]
  omega
/-- texts in a slice -/
structure Texts (w : World) (Z : Nat → Prop) (A : Option Addr) (c : Nat) (l : List (List UInt8)) : Prop where
  rd : Rd w Z 1 A l.length (l.map stv)
  lens : ∀ o ∈ l, o.length ≤ 140737488355328
  len : l.length ≤ 8796093022207
  cap : l.length ≤ c
theorem Texts.below {w w' : World} {Z : Nat → Prop} {A : Option Addr} {c : Nat} {l : List (List UInt8)} (h : Texts w Z A c l) (k : Below w.heap.size w w') : Texts w' Z A c l := ⟨h.rd.below k, h.lens, h.len, h.cap⟩

set_option maxRecDepth 100000 in
set_option maxHeartbeats 2000000 in
theorem nameChecks_far (p : ByteArray) (A : Option Addr) (c : Nat) (l : List (List UInt8)) (w : World) (h : Texts w (fun b => b < w.heap.size) A c l) (hn : ¬ (p.size ≤ 200 ∧ sumS l ≤ 200 ∧ l.length ≤ 20)) :
    Calls Try.prog 6 #[.string p, .slice A l.length c] w fun e w' => e = .returned (.bool true) ∧ Below w.heap.size w w' := by
  have hlen := h.len
  go_enter Try.func6, Try.ntmps6
  go_wp2_with fail
  go_loopw [5, 13] (fun sv iv wr => ∃ (i : Nat) (s : Int), i ≤ l.length ∧ iv = .int .i64 (i : Int) ∧ sv = .int .i64 s ∧ SeenS 20 l i s ∧ w = wr) (fun _ iv _ => l.length - (intOf iv).toNat)
  case atStart => exact ⟨0, 0, Nat.zero_le _, rfl, rfl, by intro _; simp [sumS], rfl⟩
  case round =>
    obtain ⟨i, s, hi, rfl, rfl, hs, rfl⟩ := hrel
    by_cases hlt : i < l.length
    · obtain ⟨b, off, rfl, _, _, hc⟩ := h.rd.atm hlt
      have hxl := h.lens _ (List.getElem_mem hlt)
      have hst := Lib.hid (seenS_step (by omega) hs hlt h.lens)
      generalize l[i] = x at *
      unfold stv at hc
      clear hn
      go_wp2_with fail
      go_roundw
      case rel => exact ⟨i + 1, _, hlt, by go_num, rfl, hst.out, trivial⟩
      case measure => simp [intOf]; omega
    · have e : i = l.length := by omega
      subst e
      have hor : (p.size : Int) > 200 ∨ s > 200 ∨ (l.length : Int) > 20 := by
        by_cases h1 : l.length ≤ 20
        · have hss := hs h1
          rw [List.take_length] at hss
          omega
        · omega
      clear hs hlt hn
      go_wp2_with (first | (go_at_call 14; refine (lives03_any _).mono ?_; rintro e w2 ⟨rfl, hb2⟩))
      all_goals first
        | (go_ret; exact ⟨rfl, hb2⟩)
        | (exfalso; omega)


set_option maxRecDepth 100000 in
set_option maxHeartbeats 2000000 in
theorem nameChecks_yes0 (p : ByteArray) (A : Option Addr) (c : Nat) (l : List (List UInt8)) (w : World) (h : Texts w (fun b => b < w.heap.size) A c l) (n1 : p.size ≤ 200) (n2 : sumS l ≤ 200) (n3 : l.length ≤ 20)
    (hg : goodB (tl p) = true) (hj : goodB (pasteL l) = false) (hjl : True) :
    Calls Try.prog 6 #[.string p, .slice A l.length c] w fun e w' => e = .returned (.bool true) ∧ Below w.heap.size w w' := by
  have hpl := paste_sum l
  have hjo := Lib.hid (join_eq l)
  rw [hj] at hjo
  have hjc := Lib.hid (@join_cut (tl p))
  have HG := Lib.hid (refGood_yes p (by omega) hg)
  have HC := Lib.hid (check_yes p (by omega) hg)
  have HU := Lib.hid (fun w => user_any p (by omega) w)
  have HV := Lib.hid (fun w => refUser_any p (by omega) w)
  have HP := Lib.hid (fun w => parts_good p (by omega) hg w)
  have HD := Lib.hid (fun w => depth_any p (by omega) w)
  rw [hg] at HD
  generalize userB (tl p) = U at *
  have hgood := Lib.hid hg
  have hjj := Lib.hid hj
  have hjx := Lib.hid hjl
  have hcl := cutL_len (tl p)
  rw [tl_len] at hcl
  clear hg hj hjl
  go_enter Try.func6, Try.ntmps6
  go_wp2_with fail
  go_loopw [5, 13] (fun sv iv wr => ∃ (i : Nat) (s : Int), i ≤ l.length ∧ iv = .int .i64 (i : Int) ∧ sv = .int .i64 s ∧ SeenS 20 l i s ∧ w = wr) (fun _ iv _ => l.length - (intOf iv).toNat)
  case atStart => exact ⟨0, 0, Nat.zero_le _, rfl, rfl, by intro _; simp [sumS], rfl⟩
  case round =>
    obtain ⟨i, s, hi, rfl, rfl, hs, rfl⟩ := hrel
    by_cases hlt : i < l.length
    · obtain ⟨b, off, rfl, _, _, hc⟩ := h.rd.atm hlt
      have hxl := h.lens _ (List.getElem_mem hlt)
      have hst := Lib.hid (seenS_step (by omega) hs hlt h.lens)
      generalize l[i] = x at *
      unfold stv at hc
      go_wp2_with fail
      go_roundw
      case rel => exact ⟨i + 1, _, hlt, by go_num, rfl, hst.out, trivial⟩
      case measure => simp [intOf]; omega
    · have e : i = l.length := by omega
      subst e
      have hss := hs n3
      rw [List.take_length] at hss
      subst hss
      have m1 : (p.size : Int) ≤ 200 := by omega
      have m2 : (sumS l : Int) ≤ 200 := by omega
      have m3 : (l.length : Int) ≤ 20 := by omega
      clear hs hlt
      go_wp2_with fail
      refine (HG.out _).mono ?_
      rintro e w1 ⟨rfl, hb1⟩
      go_wp2_with fail
      refine (refCut_any p (by omega) _).mono ?_
      rintro e w2 ⟨A2, c2, x, rfl, hx, hsx, hb2⟩
      have hxl : x.length ≤ 201 := by rw [hx.out]; omega
      have hpx : (pasteL x).length ≤ 200 := by rw [hx.out, paste_cut, tl_len]; omega
      replace hb2 := bthen hb1 hb2
      go_wp2_with fail
      refine (HC.out _).mono ?_
      rintro e w3 ⟨rfl, hb3⟩
      replace hsx := hsx.below hb3
      replace hb3 := bthen hb2 hb3
      go_wp2_with fail
      refine (HC.out _).mono ?_
      rintro e w4 ⟨rfl, hb4⟩
      replace hsx := hsx.below hb4
      replace hb4 := bthen hb3 hb4
      go_wp2_with fail
      refine (HU.out _).mono ?_
      rintro e w5 ⟨rfl, hb5⟩
      replace hsx := hsx.below hb5
      replace hb5 := bthen hb4 hb5
      go_wp2_with fail
      refine (HV.out _).mono ?_
      rintro e w6 ⟨rfl, hb6⟩
      replace hsx := hsx.below hb6
      replace hb6 := bthen hb5 hb6
      go_wp2_with fail
      refine (HP.out _).mono ?_
      rintro e w7 ⟨A7, c7, x7, rfl, hx7, hsx7, hb7⟩
      obtain rfl : x7 = x := hx7.out.trans hx.out.symm
      replace hsx := hsx.below hb7
      replace hb7 := bthen hb6 hb7
      go_wp2_with fail
      refine (refSame03_any A7 A2 c7 c2 x7 x7 _ _ _ hsx7.rd hsx.rd (by omega)).mono ?_
      rw [show (x7 == x7) = true by simp]
      rintro e w8 ⟨rfl, hq8⟩
      replace hsx := hsx.below hq8.below
      have hb8 := bthen hb7 hq8.below
      rw [if_pos trivial, ← hx.out] at HD
      go_wp2_with fail
      refine (HD.out _).mono ?_
      rintro e w9 ⟨rfl, hb9⟩
      replace hsx := hsx.below hb9
      replace hb9 := bthen hb8 hb9
      clear hsx7 hx7 hb1 hb2 hb3 hb4 hb5 hb6 hb7 hb8 hq8
      go_wp2_with fail
      refine (paste_any A c l _ _ (h.rd.below hb9) (by omega) (by omega)).mono ?_
      rintro e w10 ⟨J, rfl, hJ, hq10⟩
      have hJs : J.size ≤ 220 := by have := congrArg List.length hJ.out; rw [tl_len] at this; omega
      replace hsx := hsx.below hq10.below
      have hb10 := bthen hb9 hq10.below
      have HJG := Lib.hid (fun w => refGood_any J (by omega) w)
      rw [hJ.out, hjj.out] at HJG
      clear hb9 hq10
      go_wp2_with fail
      refine (HJG.out _).mono ?_
      rintro e w11 ⟨rfl, hb11⟩
      replace hsx := hsx.below hb11
      replace hb11 := bthen hb10 hb11
      go_wp2_with fail
      refine (join_any A c l _ _ (h.rd.below hb11) h.cap (by omega) (by omega)).mono ?_
      rintro e w14 ⟨t, rfl, ht, hb14⟩
      replace hsx := hsx.below hb14
      replace hb14 := bthen hb11 hb14
      obtain rfl : t = ⟨#[]⟩ := tl_inj (ht.out.trans hjo.out)
      clear ht hJ
      go_wp2_with fail
      refine (join_any A2 c2 x7 _ _ hsx.rd (Row.room hsx) (by omega) (by omega)).mono ?_
      rintro e w15 ⟨t2, rfl, ht2, hb15⟩
      replace hb15 := bthen hb14 hb15
      obtain rfl : t2 = p := tl_inj (by rw [ht2.out, hx.out]; exact hjc.out hgood.out)
      clear ht2
      go_wp2_with fail
      refine (lives03_any _).mono ?_
      rintro e w16 ⟨rfl, hb16⟩
      go_wp2_with fail
      go_ret
      exact ⟨rfl, bthen hb15 hb16⟩

set_option maxRecDepth 100000 in
set_option maxHeartbeats 2000000 in
theorem nameChecks_yes1 (p : ByteArray) (A : Option Addr) (c : Nat) (l : List (List UInt8)) (w : World) (h : Texts w (fun b => b < w.heap.size) A c l) (n1 : p.size ≤ 200) (n2 : sumS l ≤ 200) (n3 : l.length ≤ 20)
    (hg : goodB (tl p) = true) (hj : goodB (pasteL l) = true) (hjl : (cutL (pasteL l) == l) = false) :
    Calls Try.prog 6 #[.string p, .slice A l.length c] w fun e w' => e = .returned (.bool true) ∧ Below w.heap.size w w' := by
  have hpl := paste_sum l
  have hjo := Lib.hid (join_eq l)
  rw [hj, hjl] at hjo
  have hjc := Lib.hid (@join_cut (tl p))
  have HG := Lib.hid (refGood_yes p (by omega) hg)
  have HC := Lib.hid (check_yes p (by omega) hg)
  have HU := Lib.hid (fun w => user_any p (by omega) w)
  have HV := Lib.hid (fun w => refUser_any p (by omega) w)
  have HP := Lib.hid (fun w => parts_good p (by omega) hg w)
  have HD := Lib.hid (fun w => depth_any p (by omega) w)
  rw [hg] at HD
  generalize userB (tl p) = U at *
  have hgood := Lib.hid hg
  have hjj := Lib.hid hj
  have hjx := Lib.hid hjl
  have hcl := cutL_len (tl p)
  rw [tl_len] at hcl
  clear hg hj hjl
  go_enter Try.func6, Try.ntmps6
  go_wp2_with fail
  go_loopw [5, 13] (fun sv iv wr => ∃ (i : Nat) (s : Int), i ≤ l.length ∧ iv = .int .i64 (i : Int) ∧ sv = .int .i64 s ∧ SeenS 20 l i s ∧ w = wr) (fun _ iv _ => l.length - (intOf iv).toNat)
  case atStart => exact ⟨0, 0, Nat.zero_le _, rfl, rfl, by intro _; simp [sumS], rfl⟩
  case round =>
    obtain ⟨i, s, hi, rfl, rfl, hs, rfl⟩ := hrel
    by_cases hlt : i < l.length
    · obtain ⟨b, off, rfl, _, _, hc⟩ := h.rd.atm hlt
      have hxl := h.lens _ (List.getElem_mem hlt)
      have hst := Lib.hid (seenS_step (by omega) hs hlt h.lens)
      generalize l[i] = x at *
      unfold stv at hc
      go_wp2_with fail
      go_roundw
      case rel => exact ⟨i + 1, _, hlt, by go_num, rfl, hst.out, trivial⟩
      case measure => simp [intOf]; omega
    · have e : i = l.length := by omega
      subst e
      have hss := hs n3
      rw [List.take_length] at hss
      subst hss
      have m1 : (p.size : Int) ≤ 200 := by omega
      have m2 : (sumS l : Int) ≤ 200 := by omega
      have m3 : (l.length : Int) ≤ 20 := by omega
      clear hs hlt
      go_wp2_with fail
      refine (HG.out _).mono ?_
      rintro e w1 ⟨rfl, hb1⟩
      go_wp2_with fail
      refine (refCut_any p (by omega) _).mono ?_
      rintro e w2 ⟨A2, c2, x, rfl, hx, hsx, hb2⟩
      have hxl : x.length ≤ 201 := by rw [hx.out]; omega
      have hpx : (pasteL x).length ≤ 200 := by rw [hx.out, paste_cut, tl_len]; omega
      replace hb2 := bthen hb1 hb2
      go_wp2_with fail
      refine (HC.out _).mono ?_
      rintro e w3 ⟨rfl, hb3⟩
      replace hsx := hsx.below hb3
      replace hb3 := bthen hb2 hb3
      go_wp2_with fail
      refine (HC.out _).mono ?_
      rintro e w4 ⟨rfl, hb4⟩
      replace hsx := hsx.below hb4
      replace hb4 := bthen hb3 hb4
      go_wp2_with fail
      refine (HU.out _).mono ?_
      rintro e w5 ⟨rfl, hb5⟩
      replace hsx := hsx.below hb5
      replace hb5 := bthen hb4 hb5
      go_wp2_with fail
      refine (HV.out _).mono ?_
      rintro e w6 ⟨rfl, hb6⟩
      replace hsx := hsx.below hb6
      replace hb6 := bthen hb5 hb6
      go_wp2_with fail
      refine (HP.out _).mono ?_
      rintro e w7 ⟨A7, c7, x7, rfl, hx7, hsx7, hb7⟩
      obtain rfl : x7 = x := hx7.out.trans hx.out.symm
      replace hsx := hsx.below hb7
      replace hb7 := bthen hb6 hb7
      go_wp2_with fail
      refine (refSame03_any A7 A2 c7 c2 x7 x7 _ _ _ hsx7.rd hsx.rd (by omega)).mono ?_
      rw [show (x7 == x7) = true by simp]
      rintro e w8 ⟨rfl, hq8⟩
      replace hsx := hsx.below hq8.below
      have hb8 := bthen hb7 hq8.below
      rw [if_pos trivial, ← hx.out] at HD
      go_wp2_with fail
      refine (HD.out _).mono ?_
      rintro e w9 ⟨rfl, hb9⟩
      replace hsx := hsx.below hb9
      replace hb9 := bthen hb8 hb9
      clear hsx7 hx7 hb1 hb2 hb3 hb4 hb5 hb6 hb7 hb8 hq8
      go_wp2_with fail
      refine (paste_any A c l _ _ (h.rd.below hb9) (by omega) (by omega)).mono ?_
      rintro e w10 ⟨J, rfl, hJ, hq10⟩
      have hJs : J.size ≤ 220 := by have := congrArg List.length hJ.out; rw [tl_len] at this; omega
      replace hsx := hsx.below hq10.below
      have hb10 := bthen hb9 hq10.below
      have HJG := Lib.hid (fun w => refGood_any J (by omega) w)
      rw [hJ.out, hjj.out] at HJG
      clear hb9 hq10
      go_wp2_with fail
      refine (HJG.out _).mono ?_
      rintro e w11 ⟨rfl, hb11⟩
      replace hsx := hsx.below hb11
      replace hb11 := bthen hb10 hb11
      go_wp2_with fail
      refine (refCut_any J (by omega) _).mono ?_
      rintro e w12 ⟨A12, c12, y, rfl, hy, hsy, hb12⟩
      replace hsx := hsx.below hb12
      replace hb12 := bthen hb11 hb12
      have hyl : y.length ≤ 221 := by
        have := cutL_len (tl J)
        rw [hy.out]
        rw [tl_len] at this
        omega
      go_wp2_with fail
      refine (refSame03_any A12 A c12 c y l _ _ _ hsy.rd (h.rd.below hb12) (by omega)).mono ?_
      rw [show (y == l) = false by rw [hy.out, hJ.out]; exact hjx.out]
      rintro e w13 ⟨rfl, hq13⟩
      replace hsx := hsx.below hq13.below
      have hb13 := bthen hb12 hq13.below
      clear hq13 hsy hy
      go_wp2_with fail
      refine (join_any A c l _ _ (h.rd.below hb13) h.cap (by omega) (by omega)).mono ?_
      rintro e w14 ⟨t, rfl, ht, hb14⟩
      replace hsx := hsx.below hb14
      replace hb14 := bthen hb13 hb14
      obtain rfl : t = ⟨#[]⟩ := tl_inj (ht.out.trans hjo.out)
      clear ht hJ
      go_wp2_with fail
      refine (join_any A2 c2 x7 _ _ hsx.rd (Row.room hsx) (by omega) (by omega)).mono ?_
      rintro e w15 ⟨t2, rfl, ht2, hb15⟩
      replace hb15 := bthen hb14 hb15
      obtain rfl : t2 = p := tl_inj (by rw [ht2.out, hx.out]; exact hjc.out hgood.out)
      clear ht2
      go_wp2_with fail
      refine (lives03_any _).mono ?_
      rintro e w16 ⟨rfl, hb16⟩
      go_wp2_with fail
      go_ret
      exact ⟨rfl, bthen hb15 hb16⟩

set_option maxRecDepth 100000 in
set_option maxHeartbeats 2000000 in
theorem nameChecks_yes2 (p : ByteArray) (A : Option Addr) (c : Nat) (l : List (List UInt8)) (w : World) (h : Texts w (fun b => b < w.heap.size) A c l) (n1 : p.size ≤ 200) (n2 : sumS l ≤ 200) (n3 : l.length ≤ 20)
    (hg : goodB (tl p) = true) (hj : goodB (pasteL l) = true) (hjl : (cutL (pasteL l) == l) = true) :
    Calls Try.prog 6 #[.string p, .slice A l.length c] w fun e w' => e = .returned (.bool true) ∧ Below w.heap.size w w' := by
  have hpl := paste_sum l
  have hjo := Lib.hid (join_eq l)
  rw [hj, hjl] at hjo
  have hjc := Lib.hid (@join_cut (tl p))
  have HG := Lib.hid (refGood_yes p (by omega) hg)
  have HC := Lib.hid (check_yes p (by omega) hg)
  have HU := Lib.hid (fun w => user_any p (by omega) w)
  have HV := Lib.hid (fun w => refUser_any p (by omega) w)
  have HP := Lib.hid (fun w => parts_good p (by omega) hg w)
  have HD := Lib.hid (fun w => depth_any p (by omega) w)
  rw [hg] at HD
  generalize userB (tl p) = U at *
  have hgood := Lib.hid hg
  have hjj := Lib.hid hj
  have hjx := Lib.hid hjl
  have hcl := cutL_len (tl p)
  rw [tl_len] at hcl
  clear hg hj hjl
  go_enter Try.func6, Try.ntmps6
  go_wp2_with fail
  go_loopw [5, 13] (fun sv iv wr => ∃ (i : Nat) (s : Int), i ≤ l.length ∧ iv = .int .i64 (i : Int) ∧ sv = .int .i64 s ∧ SeenS 20 l i s ∧ w = wr) (fun _ iv _ => l.length - (intOf iv).toNat)
  case atStart => exact ⟨0, 0, Nat.zero_le _, rfl, rfl, by intro _; simp [sumS], rfl⟩
  case round =>
    obtain ⟨i, s, hi, rfl, rfl, hs, rfl⟩ := hrel
    by_cases hlt : i < l.length
    · obtain ⟨b, off, rfl, _, _, hc⟩ := h.rd.atm hlt
      have hxl := h.lens _ (List.getElem_mem hlt)
      have hst := Lib.hid (seenS_step (by omega) hs hlt h.lens)
      generalize l[i] = x at *
      unfold stv at hc
      go_wp2_with fail
      go_roundw
      case rel => exact ⟨i + 1, _, hlt, by go_num, rfl, hst.out, trivial⟩
      case measure => simp [intOf]; omega
    · have e : i = l.length := by omega
      subst e
      have hss := hs n3
      rw [List.take_length] at hss
      subst hss
      have m1 : (p.size : Int) ≤ 200 := by omega
      have m2 : (sumS l : Int) ≤ 200 := by omega
      have m3 : (l.length : Int) ≤ 20 := by omega
      clear hs hlt
      go_wp2_with fail
      refine (HG.out _).mono ?_
      rintro e w1 ⟨rfl, hb1⟩
      go_wp2_with fail
      refine (refCut_any p (by omega) _).mono ?_
      rintro e w2 ⟨A2, c2, x, rfl, hx, hsx, hb2⟩
      have hxl : x.length ≤ 201 := by rw [hx.out]; omega
      have hpx : (pasteL x).length ≤ 200 := by rw [hx.out, paste_cut, tl_len]; omega
      replace hb2 := bthen hb1 hb2
      go_wp2_with fail
      refine (HC.out _).mono ?_
      rintro e w3 ⟨rfl, hb3⟩
      replace hsx := hsx.below hb3
      replace hb3 := bthen hb2 hb3
      go_wp2_with fail
      refine (HC.out _).mono ?_
      rintro e w4 ⟨rfl, hb4⟩
      replace hsx := hsx.below hb4
      replace hb4 := bthen hb3 hb4
      go_wp2_with fail
      refine (HU.out _).mono ?_
      rintro e w5 ⟨rfl, hb5⟩
      replace hsx := hsx.below hb5
      replace hb5 := bthen hb4 hb5
      go_wp2_with fail
      refine (HV.out _).mono ?_
      rintro e w6 ⟨rfl, hb6⟩
      replace hsx := hsx.below hb6
      replace hb6 := bthen hb5 hb6
      go_wp2_with fail
      refine (HP.out _).mono ?_
      rintro e w7 ⟨A7, c7, x7, rfl, hx7, hsx7, hb7⟩
      obtain rfl : x7 = x := hx7.out.trans hx.out.symm
      replace hsx := hsx.below hb7
      replace hb7 := bthen hb6 hb7
      go_wp2_with fail
      refine (refSame03_any A7 A2 c7 c2 x7 x7 _ _ _ hsx7.rd hsx.rd (by omega)).mono ?_
      rw [show (x7 == x7) = true by simp]
      rintro e w8 ⟨rfl, hq8⟩
      replace hsx := hsx.below hq8.below
      have hb8 := bthen hb7 hq8.below
      rw [if_pos trivial, ← hx.out] at HD
      go_wp2_with fail
      refine (HD.out _).mono ?_
      rintro e w9 ⟨rfl, hb9⟩
      replace hsx := hsx.below hb9
      replace hb9 := bthen hb8 hb9
      clear hsx7 hx7 hb1 hb2 hb3 hb4 hb5 hb6 hb7 hb8 hq8
      go_wp2_with fail
      refine (paste_any A c l _ _ (h.rd.below hb9) (by omega) (by omega)).mono ?_
      rintro e w10 ⟨J, rfl, hJ, hq10⟩
      have hJs : J.size ≤ 220 := by have := congrArg List.length hJ.out; rw [tl_len] at this; omega
      replace hsx := hsx.below hq10.below
      have hb10 := bthen hb9 hq10.below
      have HJG := Lib.hid (fun w => refGood_any J (by omega) w)
      rw [hJ.out, hjj.out] at HJG
      clear hb9 hq10
      go_wp2_with fail
      refine (HJG.out _).mono ?_
      rintro e w11 ⟨rfl, hb11⟩
      replace hsx := hsx.below hb11
      replace hb11 := bthen hb10 hb11
      go_wp2_with fail
      refine (refCut_any J (by omega) _).mono ?_
      rintro e w12 ⟨A12, c12, y, rfl, hy, hsy, hb12⟩
      replace hsx := hsx.below hb12
      replace hb12 := bthen hb11 hb12
      have hyl : y.length ≤ 221 := by
        have := cutL_len (tl J)
        rw [hy.out]
        rw [tl_len] at this
        omega
      go_wp2_with fail
      refine (refSame03_any A12 A c12 c y l _ _ _ hsy.rd (h.rd.below hb12) (by omega)).mono ?_
      rw [show (y == l) = true by rw [hy.out, hJ.out]; exact hjx.out]
      rintro e w13 ⟨rfl, hq13⟩
      replace hsx := hsx.below hq13.below
      have hb13 := bthen hb12 hq13.below
      clear hq13 hsy hy
      go_wp2_with fail
      refine (join_any A c l _ _ (h.rd.below hb13) h.cap (by omega) (by omega)).mono ?_
      rintro e w14 ⟨t, rfl, ht, hb14⟩
      replace hsx := hsx.below hb14
      replace hb14 := bthen hb13 hb14
      obtain rfl : t = J := tl_inj (ht.out.trans (hjo.out.trans hJ.out.symm))
      clear ht hJ
      go_wp2_with fail
      refine (join_any A2 c2 x7 _ _ hsx.rd (Row.room hsx) (by omega) (by omega)).mono ?_
      rintro e w15 ⟨t2, rfl, ht2, hb15⟩
      replace hb15 := bthen hb14 hb15
      obtain rfl : t2 = p := tl_inj (by rw [ht2.out, hx.out]; exact hjc.out hgood.out)
      clear ht2
      go_wp2_with fail
      refine (lives03_any _).mono ?_
      rintro e w16 ⟨rfl, hb16⟩
      go_wp2_with fail
      go_ret
      exact ⟨rfl, bthen hb15 hb16⟩

set_option maxRecDepth 100000 in
set_option maxHeartbeats 2000000 in
theorem nameChecks_no0 (p : ByteArray) (A : Option Addr) (c : Nat) (l : List (List UInt8)) (w : World) (h : Texts w (fun b => b < w.heap.size) A c l) (n1 : p.size ≤ 200) (n2 : sumS l ≤ 200) (n3 : l.length ≤ 20)
    (hg : goodB (tl p) = false) (hj : goodB (pasteL l) = false) (hjl : True) :
    Calls Try.prog 6 #[.string p, .slice A l.length c] w fun e w' => e = .returned (.bool true) ∧ Below w.heap.size w w' := by
  have hpl := paste_sum l
  have hjo := Lib.hid (join_eq l)
  rw [hj] at hjo
  have hjc := Lib.hid (@join_cut (tl p))
  have HG := Lib.hid (refGood_no p (by omega) hg)
  have HC := Lib.hid (check_no p (by omega) hg)
  have HU := Lib.hid (fun w => user_any p (by omega) w)
  have HV := Lib.hid (fun w => refUser_any p (by omega) w)
  have HP := Lib.hid (fun w => parts_bad p (by omega) hg w)
  have HD := Lib.hid (fun w => depth_any p (by omega) w)
  rw [hg] at HD
  generalize userB (tl p) = U at *
  have hgood := Lib.hid hg
  have hjj := Lib.hid hj
  have hjx := Lib.hid hjl
  have hcl := cutL_len (tl p)
  rw [tl_len] at hcl
  clear hg hj hjl
  go_enter Try.func6, Try.ntmps6
  go_wp2_with fail
  go_loopw [5, 13] (fun sv iv wr => ∃ (i : Nat) (s : Int), i ≤ l.length ∧ iv = .int .i64 (i : Int) ∧ sv = .int .i64 s ∧ SeenS 20 l i s ∧ w = wr) (fun _ iv _ => l.length - (intOf iv).toNat)
  case atStart => exact ⟨0, 0, Nat.zero_le _, rfl, rfl, by intro _; simp [sumS], rfl⟩
  case round =>
    obtain ⟨i, s, hi, rfl, rfl, hs, rfl⟩ := hrel
    by_cases hlt : i < l.length
    · obtain ⟨b, off, rfl, _, _, hc⟩ := h.rd.atm hlt
      have hxl := h.lens _ (List.getElem_mem hlt)
      have hst := Lib.hid (seenS_step (by omega) hs hlt h.lens)
      generalize l[i] = x at *
      unfold stv at hc
      go_wp2_with fail
      go_roundw
      case rel => exact ⟨i + 1, _, hlt, by go_num, rfl, hst.out, trivial⟩
      case measure => simp [intOf]; omega
    · have e : i = l.length := by omega
      subst e
      have hss := hs n3
      rw [List.take_length] at hss
      subst hss
      have m1 : (p.size : Int) ≤ 200 := by omega
      have m2 : (sumS l : Int) ≤ 200 := by omega
      have m3 : (l.length : Int) ≤ 20 := by omega
      clear hs hlt
      go_wp2_with fail
      refine (HG.out _).mono ?_
      rintro e w1 ⟨rfl, hb1⟩
      go_wp2_with fail
      replace hb2 := hb1
      refine (HC.out _).mono ?_
      rintro e w3 ⟨rfl, hb3⟩
      skip
      replace hb3 := bthen hb2 hb3
      go_wp2_with fail
      refine (HC.out _).mono ?_
      rintro e w4 ⟨rfl, hb4⟩
      skip
      replace hb4 := bthen hb3 hb4
      go_wp2_with fail
      refine (HU.out _).mono ?_
      rintro e w5 ⟨rfl, hb5⟩
      skip
      replace hb5 := bthen hb4 hb5
      go_wp2_with fail
      refine (HV.out _).mono ?_
      rintro e w6 ⟨rfl, hb6⟩
      skip
      replace hb6 := bthen hb5 hb6
      go_wp2_with fail
      refine (HP.out _).mono ?_
      rintro e w7 ⟨rfl, hb7⟩
      replace hb7 := bthen hb6 hb7
      go_wp2_with fail
      refine (refSame03_any none none 0 0 [] [] (fun _ => False) (fun _ => False) _ Rd.nil Rd.nil (by simp)).mono ?_
      rw [show (([] : List (List UInt8)) == []) = true by simp]
      rintro e w8 ⟨rfl, hq8⟩
      have hb8 := bthen hb7 hq8.below
      rw [if_neg (by simp)] at HD
      go_wp2_with fail
      refine (HD.out _).mono ?_
      rintro e w9 ⟨rfl, hb9⟩
      replace hb9 := bthen hb8 hb9
      clear hb1 hb2 hb3 hb4 hb5 hb6 hb7 hb8 hq8
      go_wp2_with fail
      refine (paste_any A c l _ _ (h.rd.below hb9) (by omega) (by omega)).mono ?_
      rintro e w10 ⟨J, rfl, hJ, hq10⟩
      have hJs : J.size ≤ 220 := by have := congrArg List.length hJ.out; rw [tl_len] at this; omega
      have hb10 := bthen hb9 hq10.below
      have HJG := Lib.hid (fun w => refGood_any J (by omega) w)
      rw [hJ.out, hjj.out] at HJG
      clear hb9 hq10
      go_wp2_with fail
      refine (HJG.out _).mono ?_
      rintro e w11 ⟨rfl, hb11⟩
      replace hb11 := bthen hb10 hb11
      go_wp2_with fail
      refine (join_any A c l _ _ (h.rd.below hb11) h.cap (by omega) (by omega)).mono ?_
      rintro e w14 ⟨t, rfl, ht, hb14⟩
      replace hb14 := bthen hb11 hb14
      obtain rfl : t = ⟨#[]⟩ := tl_inj (ht.out.trans hjo.out)
      clear ht hJ
      go_wp2_with fail
      refine (lives03_any _).mono ?_
      rintro e w16 ⟨rfl, hb16⟩
      go_wp2_with fail
      go_ret
      exact ⟨rfl, bthen hb14 hb16⟩

set_option maxRecDepth 100000 in
set_option maxHeartbeats 2000000 in
theorem nameChecks_no1 (p : ByteArray) (A : Option Addr) (c : Nat) (l : List (List UInt8)) (w : World) (h : Texts w (fun b => b < w.heap.size) A c l) (n1 : p.size ≤ 200) (n2 : sumS l ≤ 200) (n3 : l.length ≤ 20)
    (hg : goodB (tl p) = false) (hj : goodB (pasteL l) = true) (hjl : (cutL (pasteL l) == l) = false) :
    Calls Try.prog 6 #[.string p, .slice A l.length c] w fun e w' => e = .returned (.bool true) ∧ Below w.heap.size w w' := by
  have hpl := paste_sum l
  have hjo := Lib.hid (join_eq l)
  rw [hj, hjl] at hjo
  have hjc := Lib.hid (@join_cut (tl p))
  have HG := Lib.hid (refGood_no p (by omega) hg)
  have HC := Lib.hid (check_no p (by omega) hg)
  have HU := Lib.hid (fun w => user_any p (by omega) w)
  have HV := Lib.hid (fun w => refUser_any p (by omega) w)
  have HP := Lib.hid (fun w => parts_bad p (by omega) hg w)
  have HD := Lib.hid (fun w => depth_any p (by omega) w)
  rw [hg] at HD
  generalize userB (tl p) = U at *
  have hgood := Lib.hid hg
  have hjj := Lib.hid hj
  have hjx := Lib.hid hjl
  have hcl := cutL_len (tl p)
  rw [tl_len] at hcl
  clear hg hj hjl
  go_enter Try.func6, Try.ntmps6
  go_wp2_with fail
  go_loopw [5, 13] (fun sv iv wr => ∃ (i : Nat) (s : Int), i ≤ l.length ∧ iv = .int .i64 (i : Int) ∧ sv = .int .i64 s ∧ SeenS 20 l i s ∧ w = wr) (fun _ iv _ => l.length - (intOf iv).toNat)
  case atStart => exact ⟨0, 0, Nat.zero_le _, rfl, rfl, by intro _; simp [sumS], rfl⟩
  case round =>
    obtain ⟨i, s, hi, rfl, rfl, hs, rfl⟩ := hrel
    by_cases hlt : i < l.length
    · obtain ⟨b, off, rfl, _, _, hc⟩ := h.rd.atm hlt
      have hxl := h.lens _ (List.getElem_mem hlt)
      have hst := Lib.hid (seenS_step (by omega) hs hlt h.lens)
      generalize l[i] = x at *
      unfold stv at hc
      go_wp2_with fail
      go_roundw
      case rel => exact ⟨i + 1, _, hlt, by go_num, rfl, hst.out, trivial⟩
      case measure => simp [intOf]; omega
    · have e : i = l.length := by omega
      subst e
      have hss := hs n3
      rw [List.take_length] at hss
      subst hss
      have m1 : (p.size : Int) ≤ 200 := by omega
      have m2 : (sumS l : Int) ≤ 200 := by omega
      have m3 : (l.length : Int) ≤ 20 := by omega
      clear hs hlt
      go_wp2_with fail
      refine (HG.out _).mono ?_
      rintro e w1 ⟨rfl, hb1⟩
      go_wp2_with fail
      replace hb2 := hb1
      refine (HC.out _).mono ?_
      rintro e w3 ⟨rfl, hb3⟩
      skip
      replace hb3 := bthen hb2 hb3
      go_wp2_with fail
      refine (HC.out _).mono ?_
      rintro e w4 ⟨rfl, hb4⟩
      skip
      replace hb4 := bthen hb3 hb4
      go_wp2_with fail
      refine (HU.out _).mono ?_
      rintro e w5 ⟨rfl, hb5⟩
      skip
      replace hb5 := bthen hb4 hb5
      go_wp2_with fail
      refine (HV.out _).mono ?_
      rintro e w6 ⟨rfl, hb6⟩
      skip
      replace hb6 := bthen hb5 hb6
      go_wp2_with fail
      refine (HP.out _).mono ?_
      rintro e w7 ⟨rfl, hb7⟩
      replace hb7 := bthen hb6 hb7
      go_wp2_with fail
      refine (refSame03_any none none 0 0 [] [] (fun _ => False) (fun _ => False) _ Rd.nil Rd.nil (by simp)).mono ?_
      rw [show (([] : List (List UInt8)) == []) = true by simp]
      rintro e w8 ⟨rfl, hq8⟩
      have hb8 := bthen hb7 hq8.below
      rw [if_neg (by simp)] at HD
      go_wp2_with fail
      refine (HD.out _).mono ?_
      rintro e w9 ⟨rfl, hb9⟩
      replace hb9 := bthen hb8 hb9
      clear hb1 hb2 hb3 hb4 hb5 hb6 hb7 hb8 hq8
      go_wp2_with fail
      refine (paste_any A c l _ _ (h.rd.below hb9) (by omega) (by omega)).mono ?_
      rintro e w10 ⟨J, rfl, hJ, hq10⟩
      have hJs : J.size ≤ 220 := by have := congrArg List.length hJ.out; rw [tl_len] at this; omega
      have hb10 := bthen hb9 hq10.below
      have HJG := Lib.hid (fun w => refGood_any J (by omega) w)
      rw [hJ.out, hjj.out] at HJG
      clear hb9 hq10
      go_wp2_with fail
      refine (HJG.out _).mono ?_
      rintro e w11 ⟨rfl, hb11⟩
      replace hb11 := bthen hb10 hb11
      go_wp2_with fail
      refine (refCut_any J (by omega) _).mono ?_
      rintro e w12 ⟨A12, c12, y, rfl, hy, hsy, hb12⟩
      replace hb12 := bthen hb11 hb12
      have hyl : y.length ≤ 221 := by
        have := cutL_len (tl J)
        rw [hy.out]
        rw [tl_len] at this
        omega
      go_wp2_with fail
      refine (refSame03_any A12 A c12 c y l _ _ _ hsy.rd (h.rd.below hb12) (by omega)).mono ?_
      rw [show (y == l) = false by rw [hy.out, hJ.out]; exact hjx.out]
      rintro e w13 ⟨rfl, hq13⟩
      have hb13 := bthen hb12 hq13.below
      clear hq13 hsy hy
      go_wp2_with fail
      refine (join_any A c l _ _ (h.rd.below hb13) h.cap (by omega) (by omega)).mono ?_
      rintro e w14 ⟨t, rfl, ht, hb14⟩
      replace hb14 := bthen hb13 hb14
      obtain rfl : t = ⟨#[]⟩ := tl_inj (ht.out.trans hjo.out)
      clear ht hJ
      go_wp2_with fail
      refine (lives03_any _).mono ?_
      rintro e w16 ⟨rfl, hb16⟩
      go_wp2_with fail
      go_ret
      exact ⟨rfl, bthen hb14 hb16⟩

set_option maxRecDepth 100000 in
set_option maxHeartbeats 2000000 in
theorem nameChecks_no2 (p : ByteArray) (A : Option Addr) (c : Nat) (l : List (List UInt8)) (w : World) (h : Texts w (fun b => b < w.heap.size) A c l) (n1 : p.size ≤ 200) (n2 : sumS l ≤ 200) (n3 : l.length ≤ 20)
    (hg : goodB (tl p) = false) (hj : goodB (pasteL l) = true) (hjl : (cutL (pasteL l) == l) = true) :
    Calls Try.prog 6 #[.string p, .slice A l.length c] w fun e w' => e = .returned (.bool true) ∧ Below w.heap.size w w' := by
  have hpl := paste_sum l
  have hjo := Lib.hid (join_eq l)
  rw [hj, hjl] at hjo
  have hjc := Lib.hid (@join_cut (tl p))
  have HG := Lib.hid (refGood_no p (by omega) hg)
  have HC := Lib.hid (check_no p (by omega) hg)
  have HU := Lib.hid (fun w => user_any p (by omega) w)
  have HV := Lib.hid (fun w => refUser_any p (by omega) w)
  have HP := Lib.hid (fun w => parts_bad p (by omega) hg w)
  have HD := Lib.hid (fun w => depth_any p (by omega) w)
  rw [hg] at HD
  generalize userB (tl p) = U at *
  have hgood := Lib.hid hg
  have hjj := Lib.hid hj
  have hjx := Lib.hid hjl
  have hcl := cutL_len (tl p)
  rw [tl_len] at hcl
  clear hg hj hjl
  go_enter Try.func6, Try.ntmps6
  go_wp2_with fail
  go_loopw [5, 13] (fun sv iv wr => ∃ (i : Nat) (s : Int), i ≤ l.length ∧ iv = .int .i64 (i : Int) ∧ sv = .int .i64 s ∧ SeenS 20 l i s ∧ w = wr) (fun _ iv _ => l.length - (intOf iv).toNat)
  case atStart => exact ⟨0, 0, Nat.zero_le _, rfl, rfl, by intro _; simp [sumS], rfl⟩
  case round =>
    obtain ⟨i, s, hi, rfl, rfl, hs, rfl⟩ := hrel
    by_cases hlt : i < l.length
    · obtain ⟨b, off, rfl, _, _, hc⟩ := h.rd.atm hlt
      have hxl := h.lens _ (List.getElem_mem hlt)
      have hst := Lib.hid (seenS_step (by omega) hs hlt h.lens)
      generalize l[i] = x at *
      unfold stv at hc
      go_wp2_with fail
      go_roundw
      case rel => exact ⟨i + 1, _, hlt, by go_num, rfl, hst.out, trivial⟩
      case measure => simp [intOf]; omega
    · have e : i = l.length := by omega
      subst e
      have hss := hs n3
      rw [List.take_length] at hss
      subst hss
      have m1 : (p.size : Int) ≤ 200 := by omega
      have m2 : (sumS l : Int) ≤ 200 := by omega
      have m3 : (l.length : Int) ≤ 20 := by omega
      clear hs hlt
      go_wp2_with fail
      refine (HG.out _).mono ?_
      rintro e w1 ⟨rfl, hb1⟩
      go_wp2_with fail
      replace hb2 := hb1
      refine (HC.out _).mono ?_
      rintro e w3 ⟨rfl, hb3⟩
      skip
      replace hb3 := bthen hb2 hb3
      go_wp2_with fail
      refine (HC.out _).mono ?_
      rintro e w4 ⟨rfl, hb4⟩
      skip
      replace hb4 := bthen hb3 hb4
      go_wp2_with fail
      refine (HU.out _).mono ?_
      rintro e w5 ⟨rfl, hb5⟩
      skip
      replace hb5 := bthen hb4 hb5
      go_wp2_with fail
      refine (HV.out _).mono ?_
      rintro e w6 ⟨rfl, hb6⟩
      skip
      replace hb6 := bthen hb5 hb6
      go_wp2_with fail
      refine (HP.out _).mono ?_
      rintro e w7 ⟨rfl, hb7⟩
      replace hb7 := bthen hb6 hb7
      go_wp2_with fail
      refine (refSame03_any none none 0 0 [] [] (fun _ => False) (fun _ => False) _ Rd.nil Rd.nil (by simp)).mono ?_
      rw [show (([] : List (List UInt8)) == []) = true by simp]
      rintro e w8 ⟨rfl, hq8⟩
      have hb8 := bthen hb7 hq8.below
      rw [if_neg (by simp)] at HD
      go_wp2_with fail
      refine (HD.out _).mono ?_
      rintro e w9 ⟨rfl, hb9⟩
      replace hb9 := bthen hb8 hb9
      clear hb1 hb2 hb3 hb4 hb5 hb6 hb7 hb8 hq8
      go_wp2_with fail
      refine (paste_any A c l _ _ (h.rd.below hb9) (by omega) (by omega)).mono ?_
      rintro e w10 ⟨J, rfl, hJ, hq10⟩
      have hJs : J.size ≤ 220 := by have := congrArg List.length hJ.out; rw [tl_len] at this; omega
      have hb10 := bthen hb9 hq10.below
      have HJG := Lib.hid (fun w => refGood_any J (by omega) w)
      rw [hJ.out, hjj.out] at HJG
      clear hb9 hq10
      go_wp2_with fail
      refine (HJG.out _).mono ?_
      rintro e w11 ⟨rfl, hb11⟩
      replace hb11 := bthen hb10 hb11
      go_wp2_with fail
      refine (refCut_any J (by omega) _).mono ?_
      rintro e w12 ⟨A12, c12, y, rfl, hy, hsy, hb12⟩
      replace hb12 := bthen hb11 hb12
      have hyl : y.length ≤ 221 := by
        have := cutL_len (tl J)
        rw [hy.out]
        rw [tl_len] at this
        omega
      go_wp2_with fail
      refine (refSame03_any A12 A c12 c y l _ _ _ hsy.rd (h.rd.below hb12) (by omega)).mono ?_
      rw [show (y == l) = true by rw [hy.out, hJ.out]; exact hjx.out]
      rintro e w13 ⟨rfl, hq13⟩
      have hb13 := bthen hb12 hq13.below
      clear hq13 hsy hy
      go_wp2_with fail
      refine (join_any A c l _ _ (h.rd.below hb13) h.cap (by omega) (by omega)).mono ?_
      rintro e w14 ⟨t, rfl, ht, hb14⟩
      replace hb14 := bthen hb13 hb14
      obtain rfl : t = J := tl_inj (ht.out.trans (hjo.out.trans hJ.out.symm))
      clear ht hJ
      go_wp2_with fail
      refine (lives03_any _).mono ?_
      rintro e w16 ⟨rfl, hb16⟩
      go_wp2_with fail
      go_ret
      exact ⟨rfl, bthen hb14 hb16⟩
end Go.Proofs.Ytffimpjjdhnajaa
