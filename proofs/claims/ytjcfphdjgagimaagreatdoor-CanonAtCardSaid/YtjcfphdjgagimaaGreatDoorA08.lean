/- tenderref03: less, bytes, Compare. -/
import Derived.Test.YtjcfphdjgagimaaGreatDoorA07

namespace Go.Proofs.YtjcfphdjgagimaaGreatDoor
open Go.RowKit

/-- how two numbers stand -/
def cmpN (a b : Int) : Int := if a < b then -1 else if b < a then 1 else 0
theorem less_any (a b : Int) (w : World) : Calls Tryz.prog 96 #[.int .i64 a, .int .i64 b] w fun e w' => e = .returned (.int .i64 (cmpN a b)) ∧ w = w' := by
  obtain ⟨R, hR⟩ : ∃ R, R = cmpN a b := ⟨_, rfl⟩
  rw [← hR]
  have HR := Lib.hid hR
  clear hR
  go_enter Tryz.func96, Tryz.ntmps96
  go_wp2_with fail
  all_goals
    go_ret
    refine ⟨ret_i ?_, rfl⟩
    rw [HR.out]
    unfold cmpN
    first
      | (rw [if_pos (by assumption)])
      | (rw [if_neg (by omega), if_pos (by assumption)])
      | (rw [if_neg (by omega), if_neg (by omega)])
/-- two texts that are alike so far stand as what is left of them -/
theorem cmpB_take : ∀ (i : Nat) (a b : List UInt8), a.take i = b.take i → i ≤ a.length → i ≤ b.length → cmpB a b = cmpB (a.drop i) (b.drop i)
  | 0, _, _, _, _, _ => rfl
  | i + 1, [], _, _, h, _ => by simp at h
  | i + 1, _ :: _, [], _, _, h => by simp at h
  | i + 1, x :: a, y :: b, h, ha, hb => by
    rw [List.take_succ_cons, List.take_succ_cons] at h
    injection h with h1 h2
    subst h1
    have ih := cmpB_take i a b h2 (by simpa using ha) (by simpa using hb)
    rw [List.drop_succ_cons, List.drop_succ_cons, ← ih]
    show cmpL cmp1 (x :: a) (x :: b) = _
    rw [cmpL, if_pos ((ord1.eq x x).2 rfl)]
    rfl
theorem cmpP_take : ∀ (i : Nat) (a b : List (List UInt8)), a.take i = b.take i → i ≤ a.length → i ≤ b.length → cmpP a b = cmpP (a.drop i) (b.drop i)
  | 0, _, _, _, _, _ => rfl
  | i + 1, [], _, _, h, _ => by simp at h
  | i + 1, _ :: _, [], _, _, h => by simp at h
  | i + 1, x :: a, y :: b, h, ha, hb => by
    rw [List.take_succ_cons, List.take_succ_cons] at h
    injection h with h1 h2
    subst h1
    have ih := cmpP_take i a b h2 (by simpa using ha) (by simpa using hb)
    rw [List.drop_succ_cons, List.drop_succ_cons, ← ih]
    show cmpL cmpB (x :: a) (x :: b) = _
    rw [cmpL, if_pos (cmpB_self x)]
    rfl
theorem cmpL_ends {α : Type} (c : α → α → Int) (a b : List α) (h : a = [] ∨ b = []) : cmpL c a b = cmpN a.length b.length := by
  rcases h with rfl | rfl
  · cases b with
    | nil => rfl
    | cons y b => simp [cmpL, cmpN]
  · cases a with
    | nil => rfl
    | cons y b => simp [cmpL, cmpN]; omega
theorem cmpN_add (a b k : Int) : cmpN (a + k) (b + k) = cmpN a b := by
  unfold cmpN
  split <;> split <;> first | rfl | omega | (split <;> first | rfl | omega)
theorem cmpB_hd {x y : UInt8} {a b : List UInt8} (h : cmp1 x y ≠ 0) : cmpB (x :: a) (y :: b) = cmp1 x y := by
  show cmpL cmp1 _ _ = _
  rw [cmpL, if_neg h]

set_option maxRecDepth 100000 in
set_option maxHeartbeats 1000000 in
theorem bytes_any (s t : ByteArray) (hs : s.size ≤ 1048576) (_ : t.size ≤ 1048576) (w : World) : Calls Tryz.prog 95 #[.string s, .string t] w fun e w' => e = .returned (.int .i64 (cmpB (tl s) (tl t))) ∧ Qt w w' := by
  obtain ⟨R, hR⟩ : ∃ R, R = cmpB (tl s) (tl t) := ⟨_, rfl⟩
  rw [← hR]
  have HR := Lib.hid hR
  clear hR
  go_enter Tryz.func95, Tryz.ntmps95
  go_wp2_with fail
  go_loopw [5] (fun iv wr => ∃ i : Nat, i ≤ s.size ∧ i ≤ t.size ∧ iv = .int .i64 (i : Int) ∧ Hid ((tl s).take i = (tl t).take i) ∧ Qt w wr) (fun iv _ => s.size - (intOf iv).toNat)
  case atStart => exact ⟨0, Nat.zero_le _, Nat.zero_le _, rfl, rfl, Qt.refl _⟩
  case round =>
    obtain ⟨i, hi, hj, rfl, hz, hq⟩ := hrel
    by_cases hlt : i < s.size ∧ i < t.size
    · obtain ⟨h1, h2⟩ := hlt
      have g1 : (tl s)[i]? = some s[i] := by rw [List.getElem?_eq_getElem (by rw [tl_len]; exact h1)]; rfl
      have g2 : (tl t)[i]? = some t[i] := by rw [List.getElem?_eq_getElem (by rw [tl_len]; exact h2)]; rfl
      have d1 : (tl s).drop i = s[i] :: (tl s).drop (i + 1) := by rw [List.drop_eq_getElem_cons (by rw [tl_len]; exact h1)]; rfl
      have d2 : (tl t).drop i = t[i] :: (tl t).drop (i + 1) := by rw [List.drop_eq_getElem_cons (by rw [tl_len]; exact h2)]; rfl
      have HC : Hid (∀ v, cmp1 s[i] t[i] = v → v ≠ 0 → R = v) := by
        intro v hv h0
        rw [HR.out, cmpB_take i _ _ hz.out (by rw [tl_len]; omega) (by rw [tl_len]; omega), d1, d2, cmpB_hd (by rw [hv]; exact h0), hv]
      have HN : Hid (s[i] = t[i] → (tl s).take (i + 1) = (tl t).take (i + 1)) := by
        intro e
        rw [List.take_add_one, List.take_add_one, hz.out, g1, g2, e]
      clear g1 g2 d1 d2 hz
      go_wp2_with fail
      go_quiet (fail)
      go_wp2_with fail
      · have hl : s[i].toNat < t[i].toNat := by assumption
        go_ret
        refine ⟨ret_i (HC.out _ (by unfold cmp1; rw [if_pos (by omega)]) (by omega)).symm, hq.trans ⟨_, rfl⟩⟩
      · have hl : ¬ s[i].toNat < t[i].toNat := by assumption
        go_quiet (fail)
        go_wp2_with fail
        · have hl2 : t[i].toNat < s[i].toNat := by assumption
          go_ret
          refine ⟨ret_i (HC.out _ (by unfold cmp1; rw [if_neg (by omega), if_pos (by omega)]) (by omega)).symm, (hq.trans ⟨_, rfl⟩).trans ⟨_, rfl⟩⟩
        · have hl2 : ¬ t[i].toNat < s[i].toNat := by assumption
          go_roundw
          case rel => exact ⟨i + 1, h1, h2, by go_num, HN.out (UInt8.toNat_inj.1 (by omega)), hq.trans ⟨_, rfl⟩⟩
          case measure => simp [intOf]; omega
    · have hor : (s.size : Int) ≤ (i : Int) ∨ (i : Int) < (s.size : Int) ∧ (t.size : Int) ≤ (i : Int) := by omega
      rcases hor with h1 | ⟨h1, h2⟩
      all_goals
        clear hlt
        go_wp2_with (go_at_call 96; refine (less_any _ _ _).mono ?_; rintro e w2 ⟨rfl, rfl⟩)
        go_ret
        refine ⟨ret_i ?_, hq⟩
        have e := HR.out
        rw [cmpB_take i _ _ hz.out (by rw [tl_len]; omega) (by rw [tl_len]; omega)] at e
        rw [e]
        unfold cmpB
        rw [cmpL_ends cmp1 _ _ (by
          rcases (show s.size ≤ i ∨ t.size ≤ i by omega) with h | h
          · exact .inl (List.drop_of_length_le (by rw [tl_len]; exact h))
          · exact .inr (List.drop_of_length_le (by rw [tl_len]; exact h))), List.length_drop, List.length_drop, tl_len, tl_len]
        have := cmpN_add ((s.size - i : Nat) : Int) ((t.size - i : Nat) : Int) (i : Int)
        rw [← this]
        congr 1 <;> omega

/-- how two rows stand when they are alike so far and then part -/
theorem cmpP_at {i : Nat} {a b : List (List UInt8)} {x y : List UInt8} (h : a.take i = b.take i) (hx : a[i]? = some x) (hy : b[i]? = some y) (hne : cmpB x y ≠ 0) : cmpP a b = cmpB x y := by
  obtain ⟨h1, rfl⟩ := List.getElem?_eq_some_iff.1 hx
  obtain ⟨h2, rfl⟩ := List.getElem?_eq_some_iff.1 hy
  rw [cmpP_take i a b h (by omega) (by omega), List.drop_eq_getElem_cons h1, List.drop_eq_getElem_cons h2]
  show cmpL cmpB _ _ = _
  rw [cmpL, if_neg hne]

set_option maxRecDepth 100000 in
set_option maxHeartbeats 1000000 in
theorem refCompare_any (s t : ByteArray) (hs : s.size ≤ 1048576) (ht : t.size ≤ 1048576) (w : World) : Calls Tryz.prog 82 #[.string s, .string t] w fun e w' => e = .returned (.int .i64 (cmpT (tl s) (tl t))) ∧ Below w.heap.size w w' := by
  obtain ⟨R, hR⟩ : ∃ R, R = cmpT (tl s) (tl t) := ⟨_, rfl⟩
  rw [← hR]
  have HR := Lib.hid hR
  clear hR
  go_enter Tryz.func82, Tryz.ntmps82
  go_wp2_with fail
  refine (refCut_any s hs _).mono ?_
  rintro e w1 ⟨A, c, x, rfl, hx, hsx, hb⟩
  go_wp2_with fail
  refine (refCut_any t ht _).mono ?_
  rintro e w2 ⟨A', c', y, rfl, hy, hsy, hb2⟩
  replace hsx := hsx.below hb2
  have hbb := bthen hb hb2
  have hxl : x.length ≤ 1048577 := by
    have := cutL_len (tl s)
    rw [hx.out]
    rw [tl_len] at this
    omega
  have hyl : y.length ≤ 1048577 := by
    have := cutL_len (tl t)
    rw [hy.out]
    rw [tl_len] at this
    omega
  have hxm : ∀ z ∈ x, z.length ≤ 1048576 := by
    intro z hz
    rw [hx.out] at hz
    have := cut_mem_len _ _ hz
    rw [tl_len] at this
    omega
  have hym : ∀ z ∈ y, z.length ≤ 1048576 := by
    intro z hz
    rw [hy.out] at hz
    have := cut_mem_len _ _ hz
    rw [tl_len] at this
    omega
  have HR2 : Hid (R = cmpP x y) := by show _ = _; rw [HR.out, hx.out, hy.out]; rfl
  clear HR hx hy hb hb2
  go_wp2_with fail
  go_loopw [7] (fun iv wr => ∃ i : Nat, i ≤ x.length ∧ i ≤ y.length ∧ iv = .int .i64 (i : Int) ∧ Hid (x.take i = y.take i) ∧ Qt w2 wr) (fun iv _ => x.length - (intOf iv).toNat)
  case atStart => exact ⟨0, Nat.zero_le _, Nat.zero_le _, rfl, rfl, Qt.refl _⟩
  case round =>
    obtain ⟨i, hi, hj, rfl, hz, hq⟩ := hrel
    by_cases hlt : i < x.length ∧ i < y.length
    · obtain ⟨h1, h2⟩ := hlt
      obtain ⟨xi, hxi⟩ : ∃ z, x[i]? = some z := ⟨_, List.getElem?_eq_getElem h1⟩
      obtain ⟨yi, hyi⟩ : ∃ z, y[i]? = some z := ⟨_, List.getElem?_eq_getElem h2⟩
      obtain ⟨g, off, rfl, hgb, hgl, hcell, hfz⟩ := (hsx.below hq.below).get hxi
      obtain ⟨g', off', rfl, hgb', hgl', hcell', hfz'⟩ := (hsy.below hq.below).get hyi
      obtain ⟨C, hC⟩ : ∃ C, C = cmpB xi yi := ⟨_, rfl⟩
      have HB : Hid (∀ w, Calls Tryz.prog 95 #[.string ⟨⟨xi⟩⟩, .string ⟨⟨yi⟩⟩] w fun e w' => e = .returned (.int .i64 C) ∧ Qt w w') := by
        intro w
        rw [hC]
        exact bytes_any ⟨⟨xi⟩⟩ ⟨⟨yi⟩⟩ (hxm _ (List.mem_of_getElem? hxi)) (hym _ (List.mem_of_getElem? hyi)) w
      have HC : Hid (C ≠ 0 → R = C) := by
        intro h0
        rw [HR2.out, cmpP_at hz.out hxi hyi (by rw [← hC]; exact h0), hC]
      have HN : Hid (C = 0 → x.take (i + 1) = y.take (i + 1)) := by
        intro e
        rw [hC] at e
        rw [List.take_add_one, List.take_add_one, hz.out, hxi, hyi, (ordB.eq _ _).1 e]
      clear hxi hyi hC hz hfz hfz'
      unfold stv at hcell hcell'
      go_wp2_with fail
      go_quiet ((go_at_call 95; exact Calls.quiet_of (HB.out _)))
      by_cases hC0 : C = 0
      · have HN2 := Lib.hid (HN.out hC0)
        subst hC0
        go_wp2_with fail
        go_roundw
        case rel => exact ⟨i + 1, h1, h2, by go_num, HN2.out, hq.trans ⟨_, rfl⟩⟩
        case measure => simp [intOf]; omega
      · have HN2 := Lib.hid (HC.out hC0)
        have hne : (C == 0) = false := by simpa using hC0
        have hne2 : (C != 0) = true := by simpa using hC0
        go_wp2_with fail
        go_ret
        exact ⟨ret_i HN2.out.symm, hbb.trans ((hq.trans ⟨_, rfl⟩).below.mono hbb.size)⟩
    · have hor : (x.length : Int) ≤ (i : Int) ∨ (i : Int) < (x.length : Int) ∧ (y.length : Int) ≤ (i : Int) := by omega
      rcases hor with h1 | ⟨h1, h2⟩
      all_goals
        clear hlt
        go_wp2_with (go_at_call 96; refine (less_any _ _ _).mono ?_; rintro e w2 ⟨rfl, rfl⟩)
        go_ret
        refine ⟨ret_i ?_, hbb.trans (hq.below.mono hbb.size)⟩
        have e := HR2.out
        rw [cmpP_take i _ _ hz.out (by omega) (by omega)] at e
        rw [e]
        unfold cmpP
        rw [cmpL_ends cmpB _ _ (by
          rcases (show x.length ≤ i ∨ y.length ≤ i by omega) with h | h
          · exact .inl (List.drop_of_length_le h)
          · exact .inr (List.drop_of_length_le h)), List.length_drop, List.length_drop]
        have := cmpN_add ((x.length - i : Nat) : Int) ((y.length - i : Nat) : Int) (i : Int)
        rw [← this]
        congr 1 <;> omega
end Go.Proofs.YtjcfphdjgagimaaGreatDoor

/- tenderref08: a tree is a row of items; Get, without, Put. -/
namespace Go.Proofs.YtjcfphdjgagimaaGreatDoor
open Go.RowKit

/-- an item's cells -/
def itemC (x : List UInt8 × LV) : List Value := [stv x.1, .int .i64 x.2.k, .slice x.2.x.A x.2.x.l.length x.2.x.c]
theorem item_len (x : List UInt8 × LV) : (itemC x).length = 3 := rfl
/-- a slice of items reads as a row -/
structure Its (w : World) (A : Option Addr) (L : List (List UInt8 × LV)) : Prop where
  rd : Rd w (fun _ => True) 3 A L.length (L.flatMap itemC)
  ok : ∀ x ∈ L, x.2.x.ok w (fun _ => True)
  len : L.length ≤ 1099511627776
  txt : ∀ x ∈ L, x.1.length ≤ 1048576 ∧ x.2.x.l.length ≤ 140737488355328
theorem Its.nil (w : World) : Its w none [] := ⟨Rd.nil, by simp, by simp, by simp⟩
theorem Its.below {w w' : World} {A : Option Addr} {L : List (List UInt8 × LV)} (h : Its w A L) (k : Below w.heap.size w w') : Its w' A L := ⟨h.rd.below k, fun x hx => (h.ok x hx).below k, h.len, h.txt⟩
theorem Its.at_ {w : World} {A : Option Addr} {L : List (List UInt8 × LV)} {i : Nat} (h : Its w A L) (hi : i < L.length) :
    ∃ b off, A = some ⟨b, off, none⟩ ∧ b < w.heap.size ∧ w.cell? ⟨b, off + i * 3, none⟩ = some (stv L[i].1) ∧ w.cell? ⟨b, off + i * 3 + 1, none⟩ = some (.int .i64 L[i].2.k) ∧ w.cell? ⟨b, off + i * 3 + 2, none⟩ = some (.slice L[i].2.x.A L[i].2.x.l.length L[i].2.x.c) := by
  obtain ⟨b, off, hA, _, hb, hc⟩ := h.rd.2 (by omega)
  have hg : ∀ j, j < 3 → (L.flatMap itemC)[i * 3 + j]? = (itemC L[i])[j]? := fun j hj => flat_get (k := 3) item_len L i j hi hj
  refine ⟨b, off, hA, hb, hc _ _ (hg 0 (by omega)), ?_, ?_⟩
  · rw [Nat.add_assoc]; exact hc _ _ (hg 1 (by omega))
  · rw [Nat.add_assoc]; exact hc _ _ (hg 2 (by omega))
theorem item_info : (Tryz.prog.info? 48).map (fun i => (i.zero, i.size, i.bytes)) = some (some (.agg #[.string ⟨#[]⟩, .int .i64 0, .slice none 0 0]), 3, 48) := by kernel_rfl
theorem item_one (L : List (List UInt8 × LV)) : ∀ u ∈ L.flatMap itemC, u.oneCell' = true := by
  intro u hu
  obtain ⟨x, _, hx⟩ := List.mem_flatMap.1 hu
  simp only [itemC, List.mem_cons, List.not_mem_nil, or_false] at hx
  rcases hx with rfl | rfl | rfl <;> rfl
/-- a row of items of the call's own -/
def OwI (w : World) (base : Nat) (A : Option Addr) (c : Nat) (L : List (List UInt8 × LV)) : Prop := w.ownsRow base 48 3 (.slice A L.length c) L.length (L.flatMap itemC)
theorem OwI.below {w w' : World} {base : Nat} {A : Option Addr} {c : Nat} {L : List (List UInt8 × LV)} (h : OwI w base A c L) (k : Below w.heap.size w w') : OwI w' base A c L := own_below h k
theorem OwI.its {w : World} {base : Nat} {A : Option Addr} {c : Nat} {L : List (List UInt8 × LV)} (h : OwI w base A c L) (hok : ∀ x ∈ L, x.2.x.ok w (fun _ => True)) (hl : L.length ≤ 1099511627776) (ht : ∀ x ∈ L, x.1.length ≤ 1048576 ∧ x.2.x.l.length ≤ 140737488355328) : Its w A L :=
  ⟨Rd.of_own h (fun _ _ _ => trivial), hok, hl, ht⟩
theorem OwI.grown {w w' : World} {base : Nat} {A : Option Addr} {c : Nat} {L : List (List UInt8 × LV)} (h : OwI w base A c L) (hg : w.grownBy w' (Value.slice A L.length c).ownBlock) (hb : base ≤ w.heap.size) : Below base w w' :=
  grown_below hg hb (fun g e => (h.lt g e).1)
/-- append of one item -/
theorem wpList_append_item {w : World} {ops : Array Oper} {rest : List Oper} {o : Oper} {a : Act} {Q : Exit → Act → World → Prop} (hgd : o.guard = none) (s x : Operand) {t : TypeId} (hu : Tryz.prog.underlying t = some (.slice 48))
    (ho : o.op = .call { callee := .builtin .append, args := #[s, x], argTypes := #[t, t] })
    {base : Nat} {A : Option Addr} {c : Nat} {L : List (List UInt8 × LV)} {y : List UInt8 × LV} {g : Nat} (hs : a.eval s = .slice A L.length c) (hown : OwI w base A c L) (hx : a.eval x = .slice (some ⟨g, 0, none⟩) 1 1) (hr : Rd w (fun _ => True) 3 (some ⟨g, 0, none⟩) 1 (itemC y))
    (hsum : L.length + 1 ≤ 1099511627776) (hbase : base ≤ w.heap.size)
    (h : ∀ (A' : Option Addr) (c' : Nat) (w' : World), OwI w' base A' c' (L ++ [y]) → Below base w w' → (∀ k, k < w.heap.size → (Value.slice A L.length c).ownBlock ≠ some k → w'.heap[k]? = w.heap[k]?) → wpList Tryz.prog ops Q rest (a.put o.dst (.slice A' (L.length + 1) c')) w') : wpList Tryz.prog ops Q (o :: rest) a w := by
  obtain ⟨i0, hi0, hz0, hz1, hz2⟩ := info_parts item_info
  refine wpList_append_any w hgd s x _ ho base 48 i0 _ 3 48 hu hi0 hz0 hz1 hz2 rfl (by omega) (.slice A L.length c) L.length (L.flatMap itemC) hs hown _ _ 1 1 (itemC y) hx hr (fun u hu => item_one [y] u (by simpa using hu)) (by simp only [maxLen]; omega) (by omega) hbase ?_
  intro v' w' h1 h2 h3
  obtain ⟨A', c', rfl, _⟩ := own_form h1
  refine h A' c' w' ?_ (grown_below h2 hbase (fun g e => (hown.lt g e).1)) (fun k hk hne => h2.block k hk (fun e => hne e.symm))
  unfold OwI
  rw [List.length_append, List.flatMap_append, List.flatMap_cons, List.flatMap_nil, List.append_nil]
  exact h1
end Go.Proofs.YtjcfphdjgagimaaGreatDoor

/- tenderref08: Get, without, Below, Kids. -/
namespace Go.Proofs.YtjcfphdjgagimaaGreatDoor
open Go.RowKit

theorem getR_app {α : Type} {M K : List (List UInt8 × α)} {p : List UInt8} (h : ∀ x ∈ M, x.1 ≠ p) : getR (M ++ K) p = getR K p := by
  induction M with
  | nil => rfl
  | cons y M ih => rw [List.cons_append, getR_cons, if_neg (h y (by simp)), ih (fun x hx => h x (by simp [hx]))]
set_option maxRecDepth 100000 in
set_option maxHeartbeats 1000000 in
theorem refGet08_any (A : Option Addr) (c : Nat) (L : List (List UInt8 × LV)) (p : List UInt8) (w : World) (h : Its w A L) (hp : p.length ≤ 140737488355328) :
    Calls Tryz.prog 45 #[.slice A L.length c, .string ⟨⟨p⟩⟩] w fun e w' => e = .returned (leafO (getR L p)) ∧ Below w.heap.size w w' := by
  have hb0 : Below w.heap.size w (w.alloc (.cells #[.int .i64 0, .slice none 0 0] 46)) := (by repeat (first | exact Below.refl _ _ | refine Below.alloc ?_ (by simp) _ | refine Below.setCell ?_ (by simp) _ | refine Below.drew ?_))
  have HT := Lib.hid h
  have hlen := h.len
  obtain ⟨G, hG⟩ : ∃ G, G = getR L p := ⟨_, rfl⟩
  rw [← hG]
  have HG := Lib.hid hG
  clear h hG
  have HB0 := Lib.hid hb0
  go_enter Tryz.func45, Tryz.ntmps45
  go_wp2_with fail
  generalize hW0 : w.alloc (.cells #[.int .i64 0, .slice none 0 0] 46) = W0 at *
  have x0 : Blk W0 w.heap.size 46 #[.int .i64 0, .slice none 0 0] := by rw [← hW0]; exact Blk.new _ _ _
  clear hW0
  have hT0 := HT.out.below hb0
  have hs0 := hb0.size
  clear hb0
  go_loopw [5] (fun iv wr => ∃ i : Nat, i ≤ L.length ∧ iv = .int .i64 (i : Int) ∧ Hid (wr = W0) ∧ Hid (∀ x ∈ L.take i, x.1 ≠ p)) (fun iv _ => L.length - (intOf iv).toNat)
  case atStart => exact ⟨0, Nat.zero_le _, rfl, rfl, by show ∀ x ∈ L.take 0, _; simp⟩
  case round =>
    obtain ⟨i, hi, rfl, hw, hz⟩ := hrel
    obtain rfl := hw.out
    clear hw
    have d0 := x0.cell 0
    have d1 := x0.cell 1
    have f0 := x0.frozen 0
    have f1 := x0.frozen 1
    simp at d0 d1 f0 f1
    by_cases hlt : i < L.length
    · obtain ⟨b, off, hA, hbb, c0, c1, c2⟩ := hT0.at_ hlt
      subst hA
      obtain ⟨x, hx⟩ : ∃ x, x = L[i] := ⟨_, rfl⟩
      rw [← hx] at c0 c1 c2
      by_cases he : x.1 = p
      · have HG1 : Hid (G = some x.2) := by
          show _ = _
          rw [HG.out, ← List.take_append_drop i L, List.drop_eq_getElem_cons hlt, ← hx, getR_app hz.out, getR_cons, if_pos he]
        obtain ⟨xp, xk, xA, xc, xl⟩ := x
        dsimp only at he HG1 c0 c1 c2
        subst he
        have hz2 := HG1.out
        subst hz2
        obtain ⟨x3, k3⟩ := Blk.two (x' := .int .i64 xk) (y' := .slice xA xl.length xc) x0
        have hw3 := HB0.out.trans (k3.below (B := w.heap.size) (by omega) (by intro k hk e; omega))
        clear hz HG hx HG1
        simp only [stv] at c0
        go_wp2_with fail
        generalize (wr.setCell ⟨w.heap.size, 0, none⟩ (.int .i64 xk)).setCell ⟨w.heap.size, 1, none⟩ (.slice xA xl.length xc) = V at *
        have e0 : V.cell? ⟨w.heap.size, 0, none⟩ = some (.int .i64 xk) := x3.cell 0
        have e1 : V.cell? ⟨w.heap.size, 1, none⟩ = some (.slice xA xl.length xc) := x3.cell 1
        refine bodyPost_ret (v := .agg #[.int .i64 xk, .slice xA xl.length xc]) (by simp [results, Tryz.results45, go_sem, e0, e1]) rfl ?_
        exact ⟨rfl, hw3⟩
      · have hne : (x.1 == p) = false := by simpa using he
        have HN : Hid (∀ y ∈ L.take (i + 1), y.1 ≠ p) := by
          show ∀ y ∈ _, _
          intro y hy
          rw [List.take_succ_eq_append_getElem hlt, ← hx] at hy
          rcases List.mem_append.1 hy with hy | hy
          · exact hz.out y hy
          · rw [List.mem_singleton.1 hy]; exact he
        clear hz HG hx
        simp only [stv] at c0
        go_wp2_with fail
        go_roundw
        case rel => exact ⟨i + 1, hlt, by go_num, (show True from trivial), HN⟩
        case measure => simp [intOf]; omega
    · have e : i = L.length := by omega
      subst e
      have HN : Hid (G = none) := by
        show _ = _
        rw [HG.out]
        exact getR_none.2 (fun x hx => hz.out x (by rw [List.take_length]; exact hx))
      have e := HN.out
      subst e
      obtain ⟨x3, k3⟩ := Blk.two (x' := .int .i64 0) (y' := .slice none 0 0) x0
      have hw3 := HB0.out.trans (k3.below (B := w.heap.size) (by omega) (by intro k hk e; omega))
      clear HN HG hz
      go_wp2_with fail
      generalize (wr.setCell ⟨w.heap.size, 0, none⟩ (.int .i64 0)).setCell ⟨w.heap.size, 1, none⟩ (.slice none 0 0) = V at *
      have e0 : V.cell? ⟨w.heap.size, 0, none⟩ = some (.int .i64 0) := x3.cell 0
      have e1 : V.cell? ⟨w.heap.size, 1, none⟩ = some (.slice none 0 0) := x3.cell 1
      refine bodyPost_ret (v := .agg #[.int .i64 0, .slice none 0 0]) (by simp [results, Tryz.results45, go_sem, e0, e1]) rfl ?_
      exact ⟨rfl, hw3⟩
/-- items told to a caller: a row of his own -/
def ItOwn (w : World) (base : Nat) (e : Ending) (L : List (List UInt8 × LV)) : Prop :=
  ∃ (A : Option Addr) (c : Nat) (l : List (List UInt8 × LV)), e = .returned (.slice A l.length c) ∧ Hid (l = L) ∧ OwI w base A c l
theorem withoutR_snoc {α : Type} (L : List (List UInt8 × α)) (p : List UInt8) (i : Nat) (hi : i < L.length) : withoutR (L.take (i + 1)) p = withoutR (L.take i) p ++ if L[i].1 = p then [] else [L[i]] := by
  unfold withoutR
  rw [List.take_succ_eq_append_getElem hi, List.filter_append]
  congr 1
  by_cases h : L[i].1 = p
  · rw [if_pos h]; simp [h]
  · rw [if_neg h]; simp [h]
set_option maxRecDepth 100000 in
set_option maxHeartbeats 1000000 in
theorem refWithout_any (A : Option Addr) (c : Nat) (L : List (List UInt8 × LV)) (p : List UInt8) (w : World) (h : Its w A L) :
    Calls Tryz.prog 53 #[.slice A L.length c, .string ⟨⟨p⟩⟩] w fun e w' => ItOwn w' w.heap.size e (withoutR L p) ∧ Below w.heap.size w w' := by
  have HT := Lib.hid h
  have hlen := h.len
  clear h
  go_enter Tryz.func53, Tryz.ntmps53
  go_wp2_with fail
  go_loopw [5, 6] (fun ov iv wr => ∃ (i : Nat) (A' : Option Addr) (c' : Nat) (l : List (List UInt8 × LV)), i ≤ L.length ∧ iv = .int .i64 (i : Int) ∧ ov = .slice A' l.length c' ∧ Hid (l = withoutR (L.take i) p) ∧ l.length ≤ i ∧ OwI wr w.heap.size A' c' l ∧ Below w.heap.size w wr) (fun _ iv _ => L.length - (intOf iv).toNat)
  case atStart => exact ⟨0, none, 0, [], Nat.zero_le _, rfl, rfl, rfl, Nat.le_refl _, World.ownsRow_nil _ _ _ _, Below.refl _ _⟩
  case round =>
    obtain ⟨i, A', c', l, hi, rfl, rfl, hl, hli, ho, hb⟩ := hrel
    by_cases hlt : i < L.length
    · have hsn := withoutR_snoc L p i hlt
      obtain ⟨b, off, hA, hbb, c0, c1, c2⟩ := (HT.out.below hb).at_ hlt
      subst hA
      obtain ⟨x, hx⟩ : ∃ x, x = L[i] := ⟨_, rfl⟩
      rw [← hx] at c0 c1 c2 hsn
      simp only [stv] at c0
      by_cases he : x.1 = p
      · have hne : (x.1 == p) = true := by simpa using he
        rw [if_pos he, List.append_nil, ← hl.out] at hsn
        have HN := Lib.hid hsn.symm
        clear hsn hl hx he
        go_wp2_with fail
        go_roundw
        case rel => exact ⟨i + 1, A', c', l, hlt, by go_num, rfl, HN, by omega, ho, hb⟩
        case measure => simp [intOf]; omega
      · have hne : (x.1 == p) = false := by simpa using he
        rw [if_neg he, ← hl.out] at hsn
        have HN := Lib.hid hsn.symm
        have hsz := hb.size
        have hba : Below w.heap.size w (wr.alloc (.cells #[stv x.1, .int .i64 x.2.k, .slice x.2.x.A x.2.x.l.length x.2.x.c] 48)) := hb.alloc hsz _
        have ho1 := Lib.hid (ho.below ((Below.refl _ wr).alloc (Nat.le_refl _) (.cells #[stv x.1, .int .i64 x.2.k, .slice x.2.x.A x.2.x.l.length x.2.x.c] 48)))
        have hr1 : Hid (Rd (wr.alloc (.cells #[stv x.1, .int .i64 x.2.k, .slice x.2.x.A x.2.x.l.length x.2.x.c] 48)) (fun _ => True) 3 (some ⟨wr.heap.size, 0, none⟩) 1 (itemC x)) := (Rd.lit (w := wr) (t := 48) (size := 3) (n := 1) (xs := itemC x) rfl rfl rfl).mono (fun _ _ _ => trivial)
        clear hsn hl hx he ho
        simp only [stv] at hba ho1 hr1
        go_wp2_with (at_builtin; refine wpList_append_item rfl (.tmp 20) (.tmp 25) (t := 26) rfl rfl rfl ho1.out rfl hr1.out (by omega) (by simp; omega) ?_; intro A5 c5 w5 ho5 hb5 hk5)
        have hb6 := hba.trans hb5
        go_roundw
        case rel => exact ⟨i + 1, A5, c5, l ++ [x], hlt, by go_num, by simp, HN, by simp; omega, ho5, hb6⟩
        case measure => simp [intOf]; omega
    · have e : i = L.length := by omega
      subst e
      have HN : Hid (l = withoutR L p) := by
        show _ = _
        rw [hl.out, List.take_length]
      clear hl
      go_wp2_with fail
      go_ret
      exact ⟨⟨A', c', l, rfl, HN, ho⟩, hb⟩
/-- append of one text -/
theorem wpList_append_txt {w : World} {ops : Array Oper} {rest : List Oper} {o : Oper} {a : Act} {Q : Exit → Act → World → Prop} (hgd : o.guard = none) (s x : Operand) {t : TypeId} (hu : Tryz.prog.underlying t = some (.slice 9))
    (ho : o.op = .call { callee := .builtin .append, args := #[s, x], argTypes := #[t, t] })
    {base : Nat} {A : Option Addr} {c : Nat} {L : List (List UInt8)} {y : List UInt8} {g : Nat} (hs : a.eval s = .slice A L.length c) (hown : w.ownsRow base 9 1 (.slice A L.length c) L.length (L.map stv)) (hx : a.eval x = .slice (some ⟨g, 0, none⟩) 1 1) (hr : Rd w (fun _ => True) 1 (some ⟨g, 0, none⟩) 1 [stv y])
    (hsum : L.length + 1 ≤ 1099511627776) (hbase : base ≤ w.heap.size)
    (h : ∀ (A' : Option Addr) (c' : Nat) (w' : World), w'.ownsRow base 9 1 (.slice A' (L ++ [y]).length c') (L ++ [y]).length ((L ++ [y]).map stv) → Below base w w' → wpList Tryz.prog ops Q rest (a.put o.dst (.slice A' (L.length + 1) c')) w') : wpList Tryz.prog ops Q (o :: rest) a w := by
  obtain ⟨i0, hi0, hz0, hz1, hz2⟩ := info_parts str_info
  refine wpList_append_any w hgd s x _ ho base 9 i0 _ 1 16 hu hi0 hz0 hz1 hz2 rfl (by omega) (.slice A L.length c) L.length (L.map stv) hs hown _ _ 1 1 [stv y] hx hr (fun u hu => by rw [List.mem_singleton.1 hu]; rfl) (by simp only [maxLen]; omega) (by omega) hbase ?_
  intro v' w' h1 h2 h3
  obtain ⟨A', c', rfl, _⟩ := own_form h1
  refine h A' c' w' ?_ (grown_below h2 hbase (fun g e => (hown.lt g e).1))
  rw [List.length_append, List.map_append]
  exact h1
theorem keys_snoc (L : List (List UInt8 × LV)) (f : List UInt8 → Bool) (i : Nat) (hi : i < L.length) : (keysR (L.take (i + 1))).filter f = (keysR (L.take i)).filter f ++ if f L[i].1 = true then [L[i].1] else [] := by
  unfold keysR
  rw [List.take_succ_eq_append_getElem hi, List.map_append, List.filter_append]
  congr 1
  by_cases h : f L[i].1 = true
  · rw [if_pos h]; simp [h]
  · rw [if_neg h]; simp [h]

set_option maxRecDepth 100000 in
set_option maxHeartbeats 1000000 in
theorem refBelow_any (A : Option Addr) (c : Nat) (L : List (List UInt8 × LV)) (p : List UInt8) (w : World) (h : Its w A L) (hp : p.length ≤ 1048576) :
    Calls Tryz.prog 52 #[.slice A L.length c, .string ⟨⟨p⟩⟩] w fun e w' => TxtOwn w' w.heap.size e ((keysR L).filter fun q => underB q p) ∧ Below w.heap.size w w' := by
  have HT := Lib.hid h
  have hlen := h.len
  have hF : Hid (∃ F : List UInt8 → Bool, F = fun q => underB q p) := ⟨_, rfl⟩
  obtain ⟨F, hF⟩ := hF.out
  rw [← hF]
  have HF := Lib.hid hF
  clear h hF
  go_enter Tryz.func52, Tryz.ntmps52
  go_wp2_with fail
  go_loopw [5, 6] (fun ov iv wr => ∃ (i : Nat) (A' : Option Addr) (c' : Nat) (l : List (List UInt8)), i ≤ L.length ∧ iv = .int .i64 (i : Int) ∧ ov = .slice A' l.length c' ∧ Hid (l = (keysR (L.take i)).filter F) ∧ l.length ≤ i ∧ wr.ownsRow w.heap.size 9 1 (.slice A' l.length c') l.length (l.map stv) ∧ Below w.heap.size w wr) (fun _ iv _ => L.length - (intOf iv).toNat)
  case atStart => exact ⟨0, none, 0, [], Nat.zero_le _, rfl, rfl, rfl, Nat.le_refl _, World.ownsRow_nil _ _ _ _, Below.refl _ _⟩
  case round =>
    obtain ⟨i, A', c', l, hi, rfl, rfl, hl, hli, ho, hb⟩ := hrel
    by_cases hlt : i < L.length
    · have hsn := keys_snoc L F i hlt
      obtain ⟨b, off, hA, hbb, c0, c1, c2⟩ := (HT.out.below hb).at_ hlt
      subst hA
      have hxl := HT.out.txt _ (List.getElem_mem hlt)
      obtain ⟨x, hx⟩ : ∃ x, x = L[i] := ⟨_, rfl⟩
      rw [← hx] at c0 c1 c2 hsn hxl
      have hx1 := hxl.1
      simp only [stv] at c0
      have HSN := Lib.hid hsn
      clear hsn hxl c1 c2 hx
      go_wp2_with fail
      refine (refUnder_any ⟨⟨x.1⟩⟩ ⟨⟨p⟩⟩ (by show x.1.length ≤ _; omega) (by show p.length ≤ _; omega) wr).mono ?_
      rintro e w2 ⟨rfl, hb2⟩
      rw [show tl ⟨⟨x.1⟩⟩ = x.1 from rfl, show tl ⟨⟨p⟩⟩ = p from rfl]
      have hw2 := hb.trans (hb2.mono hb.size)
      have ho2 := own_below ho hb2
      have hi2 := (HT.out.below hw2).at_ hlt
      obtain ⟨b2, off2, hA2, hbb2, d0, d1, d2⟩ := (HT.out.below hw2).at_ hlt
      have d0' : w2.cell? ⟨b, off + i * 3, none⟩ = some (.string ⟨⟨x.1⟩⟩) := by
        rw [hb2.cell hbb]
        exact c0
      clear d0 d1 d2 hA2 hbb2 hb2 hi2 ho c0
      by_cases hu : F x.1 = true
      · have hsz := hw2.size
        have hba : Below w.heap.size w (w2.alloc (.cells #[stv x.1] 9)) := hw2.alloc hsz _
        have ho1 := Lib.hid (own_below ho2 ((Below.refl _ w2).alloc (Nat.le_refl _) (.cells #[stv x.1] 9)))
        have hr1 : Hid (Rd (w2.alloc (.cells #[stv x.1] 9)) (fun _ => True) 1 (some ⟨w2.heap.size, 0, none⟩) 1 [stv x.1]) := (Rd.lit (w := w2) (t := 9) (size := 1) (n := 1) (xs := [stv x.1]) rfl rfl rfl).mono (fun _ _ _ => trivial)
        have HN : Hid (l ++ [x.1] = (keysR (L.take (i + 1))).filter F) := by
          show _ = _
          rw [HSN.out, if_pos hu, hl.out]
        have hu2 : (underB x.1 p) = true := by rw [HF.out] at hu; exact hu
        rw [hu2]
        clear hu2
        clear HSN hl hu ho2
        simp only [stv] at hba ho1 hr1
        go_wp2_with (at_builtin; refine wpList_append_txt rfl (.tmp 20) (.tmp 26) (t := 84) rfl rfl rfl ho1.out rfl hr1.out (by omega) (by simp; omega) ?_; intro A5 c5 w5 ho5 hb5)
        have hb6 := hba.trans hb5
        go_roundw
        case rel => exact ⟨i + 1, A5, c5, l ++ [x.1], hlt, by go_num, by simp, HN, by simp; omega, ho5, hb6⟩
        case measure => simp [intOf]; omega
      · have HN : Hid (l = (keysR (L.take (i + 1))).filter F) := by
          show _ = _
          rw [HSN.out, if_neg hu, hl.out, List.append_nil]
        have hu2 : (underB x.1 p) = false := by rw [HF.out] at hu; simpa using hu
        rw [hu2]
        clear hu2
        clear HSN hl hu
        go_wp2_with fail
        go_roundw
        case rel => exact ⟨i + 1, A', c', l, hlt, by go_num, rfl, HN, by omega, ho2, hw2⟩
        case measure => simp [intOf]; omega
    · have e : i = L.length := by omega
      subst e
      have HN : Hid (l = (keysR L).filter F) := by
        show _ = _
        rw [hl.out, List.take_length]
      clear hl
      go_wp2_with fail
      go_ret
      exact ⟨⟨A', c', l, rfl, HN, ho⟩, hb⟩

set_option maxRecDepth 100000 in
set_option maxHeartbeats 1000000 in
theorem refKids_any (A : Option Addr) (c : Nat) (L : List (List UInt8 × LV)) (p : List UInt8) (w : World) (h : Its w A L) (hp : p.length ≤ 1048576) :
    Calls Tryz.prog 47 #[.slice A L.length c, .string ⟨⟨p⟩⟩] w fun e w' => TxtOwn w' w.heap.size e ((keysR L).filter fun q => (parT q).1 == p) ∧ Below w.heap.size w w' := by
  have HT := Lib.hid h
  have hlen := h.len
  have hF : Hid (∃ F : List UInt8 → Bool, F = fun q => (parT q).1 == p) := ⟨_, rfl⟩
  obtain ⟨F, hF⟩ := hF.out
  rw [← hF]
  have HF := Lib.hid hF
  clear h hF
  go_enter Tryz.func47, Tryz.ntmps47
  go_wp2_with fail
  go_loopw [5, 6] (fun ov iv wr => ∃ (i : Nat) (A' : Option Addr) (c' : Nat) (l : List (List UInt8)), i ≤ L.length ∧ iv = .int .i64 (i : Int) ∧ ov = .slice A' l.length c' ∧ Hid (l = (keysR (L.take i)).filter F) ∧ l.length ≤ i ∧ wr.ownsRow w.heap.size 9 1 (.slice A' l.length c') l.length (l.map stv) ∧ Below w.heap.size w wr) (fun _ iv _ => L.length - (intOf iv).toNat)
  case atStart => exact ⟨0, none, 0, [], Nat.zero_le _, rfl, rfl, rfl, Nat.le_refl _, World.ownsRow_nil _ _ _ _, Below.refl _ _⟩
  case round =>
    obtain ⟨i, A', c', l, hi, rfl, rfl, hl, hli, ho, hb⟩ := hrel
    by_cases hlt : i < L.length
    · have hsn := keys_snoc L F i hlt
      obtain ⟨b, off, hA, hbb, c0, c1, c2⟩ := (HT.out.below hb).at_ hlt
      subst hA
      have hxl := HT.out.txt _ (List.getElem_mem hlt)
      obtain ⟨x, hx⟩ : ∃ x, x = L[i] := ⟨_, rfl⟩
      rw [← hx] at c0 c1 c2 hsn hxl
      have hx1 := hxl.1
      simp only [stv] at c0
      have HSN := Lib.hid hsn
      clear hsn hxl c1 c2 hx
      go_wp2_with fail
      refine (refParent_any ⟨⟨x.1⟩⟩ (by have := hp; show x.1.length ≤ _; omega) wr).mono ?_
      rintro e w2 ⟨⟨⟨q⟩⟩, rfl, hq, hb2⟩
      obtain rfl : q = (parT x.1).1 := hq.out
      clear hq
      have hw2 := hb.trans (hb2.mono hb.size)
      have ho2 := own_below ho hb2
      have hi2 := (HT.out.below hw2).at_ hlt
      obtain ⟨b2, off2, hA2, hbb2, d0, d1, d2⟩ := (HT.out.below hw2).at_ hlt
      have d0' : w2.cell? ⟨b, off + i * 3, none⟩ = some (.string ⟨⟨x.1⟩⟩) := by
        rw [hb2.cell hbb]
        exact c0
      clear d0 d1 d2 hA2 hbb2 hb2 hi2 ho c0
      by_cases hu : F x.1 = true
      · have hsz := hw2.size
        have hba : Below w.heap.size w (w2.alloc (.cells #[stv x.1] 9)) := hw2.alloc hsz _
        have ho1 := Lib.hid (own_below ho2 ((Below.refl _ w2).alloc (Nat.le_refl _) (.cells #[stv x.1] 9)))
        have hr1 : Hid (Rd (w2.alloc (.cells #[stv x.1] 9)) (fun _ => True) 1 (some ⟨w2.heap.size, 0, none⟩) 1 [stv x.1]) := (Rd.lit (w := w2) (t := 9) (size := 1) (n := 1) (xs := [stv x.1]) rfl rfl rfl).mono (fun _ _ _ => trivial)
        have HN : Hid (l ++ [x.1] = (keysR (L.take (i + 1))).filter F) := by
          show _ = _
          rw [HSN.out, if_pos hu, hl.out]
        have hu2 : ((parT x.1).1 == p) = true := by rw [HF.out] at hu; exact hu
        skip
        clear HSN hl hu ho2
        simp only [stv] at hba ho1 hr1
        go_wp2_with (at_builtin; refine wpList_append_txt rfl (.tmp 21) (.tmp 27) (t := 84) rfl rfl rfl ho1.out rfl hr1.out (by omega) (by simp; omega) ?_; intro A5 c5 w5 ho5 hb5)
        have hb6 := hba.trans hb5
        go_roundw
        case rel => exact ⟨i + 1, A5, c5, l ++ [x.1], hlt, by go_num, by simp, HN, by simp; omega, ho5, hb6⟩
        case measure => simp [intOf]; omega
      · have HN : Hid (l = (keysR (L.take (i + 1))).filter F) := by
          show _ = _
          rw [HSN.out, if_neg hu, hl.out, List.append_nil]
        have hu2 : ((parT x.1).1 == p) = false := by rw [HF.out] at hu; simpa using hu
        skip
        clear HSN hl hu
        go_wp2_with fail
        go_roundw
        case rel => exact ⟨i + 1, A', c', l, hlt, by go_num, rfl, HN, by omega, ho2, hw2⟩
        case measure => simp [intOf]; omega
    · have e : i = L.length := by omega
      subst e
      have HN : Hid (l = (keysR L).filter F) := by
        show _ = _
        rw [hl.out, List.take_length]
      clear hl
      go_wp2_with fail
      go_ret
      exact ⟨⟨A', c', l, rfl, HN, ho⟩, hb⟩
end Go.Proofs.YtjcfphdjgagimaaGreatDoor

/- A row with one more, told from the left. No program. -/
namespace Go.Proofs.YtjcfphdjgagimaaGreatDoor

/-- something stands behind it -/
def behR {α : Type} (p : List UInt8) (L : List (List UInt8 × α)) : Bool := L.any fun x => decide (0 < cmpT x.1 p)
theorem ins_none {α : Type} (p : List UInt8) (v : α) : ∀ (L : List (List UInt8 × α)), behR p L = false → insR p v L = L ++ [(p, v)]
  | [], _ => rfl
  | x :: L, h => by
    simp only [behR, List.any_cons, Bool.or_eq_false_iff, decide_eq_false_iff_not] at h
    rw [insR, if_neg h.1, ins_none p v L h.2]
    rfl
theorem ins_here {α : Type} (p : List UInt8) (v : α) (x : List UInt8 × α) (hx : 0 < cmpT x.1 p) : ∀ (L : List (List UInt8 × α)), behR p L = false → insR p v (L ++ [x]) = L ++ [(p, v)] ++ [x]
  | [], _ => by rw [List.nil_append, insR, if_pos hx]; rfl
  | y :: L, h => by
    simp only [behR, List.any_cons, Bool.or_eq_false_iff, decide_eq_false_iff_not] at h
    rw [List.cons_append, insR, if_neg h.1, ins_here p v x hx L h.2]
    rfl
theorem ins_done {α : Type} (p : List UInt8) (v : α) (x : List UInt8 × α) : ∀ (L : List (List UInt8 × α)), behR p L = true → insR p v (L ++ [x]) = insR p v L ++ [x]
  | [], h => by simp [behR] at h
  | y :: L, h => by
    rw [List.cons_append, insR, insR]
    split
    · rfl
    · rename_i hy
      have : behR p L = true := by
        simp only [behR, List.any_cons, Bool.or_eq_true, decide_eq_true_eq] at h ⊢
        exact h.resolve_left hy
      rw [ins_done p v x L this]
      rfl
theorem beh_snoc {α : Type} (p : List UInt8) (L : List (List UInt8 × α)) (x : List UInt8 × α) : behR p (L ++ [x]) = (behR p L || decide (0 < cmpT x.1 p)) := by simp [behR]
/-- what Put has, of the first ones -/
def midR {α : Type} (p : List UInt8) (v : α) (L : List (List UInt8 × α)) : List (List UInt8 × α) := if behR p L = true then insR p v L else L
end Go.Proofs.YtjcfphdjgagimaaGreatDoor

/- tenderref08: Put. -/
namespace Go.Proofs.YtjcfphdjgagimaaGreatDoor
open Go.RowKit

def putI (L : List (List UInt8 × LV)) (p : List UInt8) (o : LV) : List (List UInt8 × LV) := if o.k = 0 then withoutR L p else putR L p o
theorem Its.without {w w' : World} {A A' : Option Addr} {c' : Nat} {base : Nat} {L : List (List UInt8 × LV)} {p : List UInt8} (h : Its w A L) (ho : OwI w' base A' c' (withoutR L p)) (k : Below w.heap.size w w') : Its w' A' (withoutR L p) :=
  ho.its (fun x hx => (h.ok x (List.mem_filter.1 hx).1).below k) (Nat.le_trans (without_len_le L p) h.len) (fun x hx => h.txt x (List.mem_filter.1 hx).1)

set_option maxRecDepth 100000 in
set_option maxHeartbeats 2000000 in
theorem refPut_any (A : Option Addr) (c : Nat) (L : List (List UInt8 × LV)) (p : List UInt8) (k : Int) (bA : Option Addr) (bc : Nat) (bl : List UInt8) (w : World) (h : Its w A L) (hp : p.length ≤ 1048576) (hn : L.length ≤ 1000000) :
    Calls Tryz.prog 55 #[.slice A L.length c, .string ⟨⟨p⟩⟩, .agg #[.int .i64 k, .slice bA bl.length bc]] w fun e w' => ItOwn w' w.heap.size e (putI L p ⟨k, ⟨bA, bc, bl⟩⟩) ∧ Below w.heap.size w w' := by
  have hb0 : Below w.heap.size w (w.alloc (.cells #[.int .i64 k, .slice bA bl.length bc] 46)) := (by repeat (first | exact Below.refl _ _ | refine Below.alloc ?_ (by simp) _ | refine Below.setCell ?_ (by simp) _ | refine Below.drew ?_))
  have x0 := Blk.new w 46 #[.int .i64 k, .slice bA bl.length bc]
  have HT := Lib.hid h
  obtain ⟨R, hR⟩ : ∃ R, R = putI L p ⟨k, ⟨bA, bc, bl⟩⟩ := ⟨_, rfl⟩
  rw [← hR]
  have HR := Lib.hid hR
  have hl0 := without_len_le L p
  clear h hR
  go_enter Tryz.func55, Tryz.ntmps55
  go_wp2_with fail
  refine (refWithout_any A c L p _ (HT.out.below hb0)).mono ?_
  rintro e w1 ⟨⟨A1, c1, M, rfl, hM, ho1⟩, hb1⟩
  have hw1 := hb0.trans (hb1.mono hb0.size)
  have x1 := x0.below hb1
  have hI : Its w1 A1 M := by
    rw [hM.out]
    exact HT.out.without (by rw [← hM.out]; exact ho1) hw1
  have hMl : M.length ≤ 1000000 := by rw [hM.out]; omega
  have ho1' : OwI w1 w.heap.size A1 c1 M := own_base ho1 (fun g hg => Nat.le_trans hb0.size (ho1.lt _ hg).1)
  have hs1 := hw1.size
  clear x0 hb0 hb1 ho1 hl0 HT
  have q0 : w1.cell? ⟨w.heap.size, 0, none⟩ = some (.int .i64 k) := x1.cell 0
  by_cases hk : k = 0
  · subst hk
    have e : R = M := by rw [HR.out, hM.out]; rfl
    subst e
    go_wp2_with fail
    go_ret
    exact ⟨⟨A1, c1, R, rfl, rfl, ho1'⟩, hw1⟩
  · obtain ⟨v, hv⟩ : ∃ v : LV, v = ⟨k, ⟨bA, bc, bl⟩⟩ := ⟨_, rfl⟩
    have HR2 : Hid (R = insR p v M) := by
      show _ = _
      rw [HR.out, hM.out, hv]
      unfold putI
      rw [if_neg (by simpa using hk)]
      rfl
    have HV := Lib.hid hv
    have hkb : (k == 0) = false := by simpa using hk
    clear HR hM hv ho1' hk
    go_wp2_with fail
    clear q0
    go_loopw [7, 8, 9] (fun ov dv iv wr => ∃ (i : Nat) (A' : Option Addr) (c' : Nat) (l : List (List UInt8 × LV)) (d : Bool), i ≤ M.length ∧ iv = .int .i64 (i : Int) ∧ dv = .bool d ∧ ov = .slice A' l.length c' ∧ Hid (d = behR p (M.take i)) ∧ Hid (l = midR p v (M.take i)) ∧ l.length ≤ i + 1 ∧ OwI wr w1.heap.size A' c' l ∧ Below w1.heap.size w1 wr) (fun _ _ iv _ => M.length - (intOf iv).toNat)
    case atStart => exact ⟨0, none, 0, [], false, Nat.zero_le _, rfl, rfl, rfl, rfl, rfl, by simp, World.ownsRow_nil _ _ _ _, Below.refl _ _⟩
    case round =>
      obtain ⟨i, A', c', l, d, hi, rfl, rfl, rfl, hd, hl, hli, ho, hb⟩ := hrel
      have xr := x1.below hb
      by_cases hlt : i < M.length
      · obtain ⟨b, off, hA, hbb, c0, d1, d2⟩ := hI.at_ hlt
        have hxl := (hI.txt _ (List.getElem_mem hlt)).1
        subst hA
        have ht := List.take_succ_eq_append_getElem hlt
        obtain ⟨x, hx⟩ : ∃ x, x = M[i] := ⟨_, rfl⟩
        rw [← hx] at c0 d1 d2 hxl ht
        simp only [stv] at c0
        have HX : Hid (∀ W, Below w1.heap.size w1 W → W.cell? ⟨b, off + i * 3, none⟩ = some (.string ⟨⟨x.1⟩⟩) ∧ W.cell? ⟨b, off + i * 3 + 1, none⟩ = some (.int .i64 x.2.k) ∧ W.cell? ⟨b, off + i * 3 + 2, none⟩ = some (.slice x.2.x.A x.2.x.l.length x.2.x.c)) := by
          intro W hW
          rw [hW.cell hbb, hW.cell hbb, hW.cell hbb]
          exact ⟨c0, d1, d2⟩
        have HB : Hid (∀ W, Below w1.heap.size w1 W → W.cell? ⟨w.heap.size, 0, none⟩ = some (.int .i64 k) ∧ W.cell? ⟨w.heap.size, 1, none⟩ = some (.slice bA bl.length bc)) := fun W hW => ⟨(x1.below hW).cell 0, (x1.below hW).cell 1⟩
        have ht2 := beh_snoc p (M.take i) x
        rw [← ht, ← hd.out] at ht2
        clear c0 d1 d2 xr hx
        cases d
        · have hb1 := hb.size
          obtain ⟨c0, c1', c2⟩ := HX.out wr hb
          have HBH := Lib.hid hd.out
          have HL2 := Lib.hid hl.out
          clear c1' c2 hl hd
          go_wp2_with fail
          refine (refCompare_any ⟨⟨x.1⟩⟩ ⟨⟨p⟩⟩ (by show x.1.length ≤ _; omega) (by show p.length ≤ _; omega) wr).mono ?_
          rintro e w2 ⟨rfl, hb2⟩
          rw [show tl ⟨⟨x.1⟩⟩ = x.1 from rfl, show tl ⟨⟨p⟩⟩ = p from rfl]
          have hw2 := hb.trans (hb2.mono hb1)
          have ho2 := ho.below hb2
          have hs2 := hw2.size
          clear ho hb2 c0
          have lm : l = M.take i := by
            rw [HL2.out]; unfold midR; rw [if_neg (by rw [← HBH.out]; simp)]
          have hli2 : l.length ≤ i := by rw [lm]; exact List.length_take_le _ _
          by_cases hc : 0 < cmpT x.1 p
          · have hN : l ++ [(p, v)] ++ [x] = midR p v (M.take (i + 1)) := by
              unfold midR
              rw [if_pos (by rw [ht2]; simp [hc]), ht, ins_here p v x hc _ HBH.out.symm, lm]
            have HN := Lib.hid hN
            have HD : Hid (true = behR p (M.take (i + 1))) := by
              show _ = _
              rw [ht2]; simp [hc]
            obtain ⟨q0, q1⟩ := HB.out w2 hw2
            have ba1 : Below w1.heap.size w1 (w2.alloc (.cells #[.string ⟨⟨p⟩⟩, .int .i64 k, .slice bA bl.length bc] 48)) := hw2.alloc hw2.size _
            have oa1 := Lib.hid (ho2.below ((Below.refl _ w2).alloc (Nat.le_refl _) (.cells #[.string ⟨⟨p⟩⟩, .int .i64 k, .slice bA bl.length bc] 48)))
            have ra1 : Hid (Rd (w2.alloc (.cells #[.string ⟨⟨p⟩⟩, .int .i64 k, .slice bA bl.length bc] 48)) (fun _ => True) 3 (some ⟨w2.heap.size, 0, none⟩) 1 (itemC (p, v))) := (Rd.lit (w := w2) (t := 48) (size := 3) (n := 1) (xs := itemC (p, v)) (by rw [HV.out]; rfl) rfl rfl).mono (fun _ _ _ => trivial)
            clear hN lm HL2 HBH ht2 ht ho2 hI x1
            go_wp2_with (first | (at_builtin; refine wpList_append_item rfl (.tmp 35) (.tmp 39) (t := 26) rfl rfl rfl oa1.out rfl ra1.out (by simp; omega) ba1.size ?_; intro A5 c5 w5 ho5 hb5 _; have hb6 := ba1.trans hb5; obtain ⟨c0, c1', c2⟩ := HX.out w5 hb6; clear oa1 ra1; have ba2 : Below w1.heap.size w1 (w5.alloc (.cells #[.string ⟨⟨x.1⟩⟩, .int .i64 x.2.k, .slice x.2.x.A x.2.x.l.length x.2.x.c] 48)) := hb6.alloc hb6.size _; have oa2 := Lib.hid (ho5.below ((Below.refl _ w5).alloc (Nat.le_refl _) (.cells #[.string ⟨⟨x.1⟩⟩, .int .i64 x.2.k, .slice x.2.x.A x.2.x.l.length x.2.x.c] 48))); have ra2 : Hid (Rd (w5.alloc (.cells #[.string ⟨⟨x.1⟩⟩, .int .i64 x.2.k, .slice x.2.x.A x.2.x.l.length x.2.x.c] 48)) (fun _ => True) 3 (some ⟨w5.heap.size, 0, none⟩) 1 (itemC x)) := (Rd.lit (w := w5) (t := 48) (size := 3) (n := 1) (xs := itemC x) rfl rfl rfl).mono (fun _ _ _ => trivial)) | (at_builtin; refine wpList_append_item rfl (.tmp 41) (.tmp 46) (t := 26) rfl rfl (by rw [List.length_append]; rfl) oa2.out rfl ra2.out (by simp; omega) ba2.size ?_; intro A7 c7 w7 ho7 hb7 _))
            have hb8 := ba2.trans hb7
            go_roundw
            case rel => exact ⟨i + 1, A7, c7, l ++ [(p, v)] ++ [x], true, hlt, by go_num, rfl, by simp, HD, HN, by simp; omega, ho7, hb8⟩
            case measure => simp [intOf]; omega
          · have hN : l ++ [x] = midR p v (M.take (i + 1)) := by
              unfold midR
              rw [if_neg (by rw [ht2]; simp [hc]), ht, lm]
            have HN := Lib.hid hN
            have HD : Hid (false = behR p (M.take (i + 1))) := by
              show _ = _
              rw [ht2]; simp [hc]
            obtain ⟨c0, c1', c2⟩ := HX.out w2 hw2
            have ba1 : Below w1.heap.size w1 (w2.alloc (.cells #[.string ⟨⟨x.1⟩⟩, .int .i64 x.2.k, .slice x.2.x.A x.2.x.l.length x.2.x.c] 48)) := hw2.alloc hw2.size _
            have oa1 := Lib.hid (ho2.below ((Below.refl _ w2).alloc (Nat.le_refl _) (.cells #[.string ⟨⟨x.1⟩⟩, .int .i64 x.2.k, .slice x.2.x.A x.2.x.l.length x.2.x.c] 48)))
            have ra1 : Hid (Rd (w2.alloc (.cells #[.string ⟨⟨x.1⟩⟩, .int .i64 x.2.k, .slice x.2.x.A x.2.x.l.length x.2.x.c] 48)) (fun _ => True) 3 (some ⟨w2.heap.size, 0, none⟩) 1 (itemC x)) := (Rd.lit (w := w2) (t := 48) (size := 3) (n := 1) (xs := itemC x) rfl rfl rfl).mono (fun _ _ _ => trivial)
            clear hN lm HL2 HBH ht2 ht ho2 hI x1
            go_wp2_with (at_builtin; refine wpList_append_item rfl (.tmp 41) (.tmp 46) (t := 26) rfl rfl rfl oa1.out rfl ra1.out (by simp; omega) ba1.size ?_; intro A5 c5 w5 ho5 hb5 _)
            have hb6 := ba1.trans hb5
            go_roundw
            case rel => exact ⟨i + 1, A5, c5, l ++ [x], false, hlt, by go_num, rfl, by simp, HD, HN, by simp; omega, ho5, hb6⟩
            case measure => simp [intOf]; omega
        · have hb1 := hb.size
          have hN : l ++ [x] = midR p v (M.take (i + 1)) := by
            unfold midR
            rw [if_pos (by rw [ht2]; simp), ht, ins_done p v x _ hd.out.symm, hl.out]
            unfold midR
            rw [if_pos hd.out.symm]
          have HN := Lib.hid hN
          have HD : Hid (true = behR p (M.take (i + 1))) := by
            show _ = _
            rw [ht2]; simp
          obtain ⟨c0, c1', c2⟩ := HX.out wr hb
          have ba1 : Below w1.heap.size w1 (wr.alloc (.cells #[.string ⟨⟨x.1⟩⟩, .int .i64 x.2.k, .slice x.2.x.A x.2.x.l.length x.2.x.c] 48)) := hb.alloc hb.size _
          have oa1 := Lib.hid (ho.below ((Below.refl _ wr).alloc (Nat.le_refl _) (.cells #[.string ⟨⟨x.1⟩⟩, .int .i64 x.2.k, .slice x.2.x.A x.2.x.l.length x.2.x.c] 48)))
          have ra1 : Hid (Rd (wr.alloc (.cells #[.string ⟨⟨x.1⟩⟩, .int .i64 x.2.k, .slice x.2.x.A x.2.x.l.length x.2.x.c] 48)) (fun _ => True) 3 (some ⟨wr.heap.size, 0, none⟩) 1 (itemC x)) := (Rd.lit (w := wr) (t := 48) (size := 3) (n := 1) (xs := itemC x) rfl rfl rfl).mono (fun _ _ _ => trivial)
          clear hN ht2 ht ho hI x1 hl hd
          go_wp2_with (at_builtin; refine wpList_append_item rfl (.tmp 41) (.tmp 46) (t := 26) rfl rfl rfl oa1.out rfl ra1.out (by simp; omega) ba1.size ?_; intro A5 c5 w5 ho5 hb5 _)
          have hb6 := ba1.trans hb5
          go_roundw
          case rel => exact ⟨i + 1, A5, c5, l ++ [x], true, hlt, by go_num, rfl, by simp, HD, HN, by simp; omega, ho5, hb6⟩
          case measure => simp [intOf]; omega
      · have e : i = M.length := by omega
        subst e
        rw [List.take_length] at hd hl
        cases d
        · have HN : Hid (l ++ [(p, v)] = R) := by
            show _ = _
            rw [HR2.out, ins_none p v M hd.out.symm, hl.out]
            unfold midR
            rw [if_neg (by rw [← hd.out]; simp)]
          have hv1 : v.k = k ∧ v.x.A = bA ∧ v.x.l = bl ∧ v.x.c = bc := by rw [HV.out]; exact ⟨rfl, rfl, rfl, rfl⟩
          have q0 : wr.cell? ⟨w.heap.size, 0, none⟩ = some (.int .i64 k) := xr.cell 0
          have q1 : wr.cell? ⟨w.heap.size, 1, none⟩ = some (.slice bA bl.length bc) := xr.cell 1
          have hsz := hb.size
          have hba : Below w1.heap.size w1 (wr.alloc (.cells #[.string ⟨⟨p⟩⟩, .int .i64 k, .slice bA bl.length bc] 48)) := hb.alloc hsz _
          have ho5 := Lib.hid (ho.below ((Below.refl _ wr).alloc (Nat.le_refl _) (.cells #[.string ⟨⟨p⟩⟩, .int .i64 k, .slice bA bl.length bc] 48)))
          have hr1 : Hid (Rd (wr.alloc (.cells #[.string ⟨⟨p⟩⟩, .int .i64 k, .slice bA bl.length bc] 48)) (fun _ => True) 3 (some ⟨wr.heap.size, 0, none⟩) 1 (itemC (p, v))) := (Rd.lit (w := wr) (t := 48) (size := 3) (n := 1) (xs := itemC (p, v)) (by rw [HV.out]; rfl) rfl rfl).mono (fun _ _ _ => trivial)
          clear hl hd ho hI x1 xr hv1 HR2
          go_wp2_with (at_builtin; refine wpList_append_item rfl (.tmp 50) (.tmp 54) (t := 26) rfl rfl rfl ho5.out rfl hr1.out (by omega) (by simp; omega) ?_; intro A5 c5 w5 ho6 hb5 hk5)
          have hb6 := hba.trans hb5
          go_ret
          exact ⟨⟨A5, c5, l ++ [(p, v)], by simp, HN, own_base ho6 (fun g hg => Nat.le_trans hs1 (ho6.lt _ hg).1)⟩, hw1.trans (hb6.mono hs1)⟩
        · have HN : Hid (l = R) := by
            show _ = _
            rw [HR2.out, hl.out]
            unfold midR
            rw [if_pos hd.out.symm]
          clear hl hd hI x1 xr HR2
          go_wp2_with fail
          go_ret
          exact ⟨⟨A', c', l, rfl, HN, own_base ho (fun g hg => Nat.le_trans hs1 (ho.lt _ hg).1)⟩, hw1.trans (hb.mono hs1)⟩
end Go.Proofs.YtjcfphdjgagimaaGreatDoor

/- tenderref08: Set. -/
namespace Go.Proofs.YtjcfphdjgagimaaGreatDoor
open Go.RowKit

theorem paste_nil : ∀ (l : List (List UInt8)), pasteL l = [] → l = [] ∨ l = [[]]
  | [], _ => .inl rfl
  | [x], h => .inr (by rw [show x = [] from h])
  | x :: y :: l, h => by
    rw [pasteL] at h
    simp at h
/-- a parent is no empty path -/
theorem par_ne (p : List UInt8) : (parT p).2 = true ↔ (parT p).1 ≠ [] := by
  unfold parT
  split
  · rename_i h
    refine ⟨fun _ => ?_, fun _ => rfl⟩
    show pasteL _ ≠ []
    simp only [Bool.and_eq_true, decide_eq_true_eq] at h
    intro e
    have hg := h.1
    unfold goodB at hg
    simp only [Bool.and_eq_true, decide_eq_true_eq] at hg
    rcases paste_nil _ e with e | e
    · have := congrArg List.length e
      rw [List.length_dropLast] at this
      simp at this
      omega
    · have hm : ([] : List UInt8) ∈ cutL p := List.dropLast_subset _ (by rw [e]; simp)
      have := List.all_eq_true.1 hg.1.2 _ hm
      revert this
      decide
  · simp
theorem Its.putI {w w' : World} {A A' : Option Addr} {c' : Nat} {base : Nat} {L : List (List UInt8 × LV)} {p : List UInt8} {v : LV} (h : Its w A L) (ho : OwI w' base A' c' (putI L p v)) (hy : v.x.ok w (fun _ => True)) (hp : p.length ≤ 1048576) (hv : v.x.l.length ≤ 140737488355328) (hn : L.length ≤ 1000000) (k : Below w.heap.size w w') : Its w' A' (putI L p v) := by
  have hm : ∀ x ∈ Go.Proofs.YtjcfphdjgagimaaGreatDoor.putI L p v, x = (p, v) ∨ x ∈ L := by
    intro x hx
    unfold Go.Proofs.YtjcfphdjgagimaaGreatDoor.putI at hx
    split at hx
    · exact .inr (List.mem_filter.1 hx).1
    · rcases mem_ins.1 hx with e | e
      · exact .inl e
      · exact .inr (List.mem_filter.1 e).1
  refine ho.its (fun x hx => ?_) ?_ (fun x hx => ?_)
  · rcases hm x hx with rfl | e
    · exact hy.below k
    · exact (h.ok x e).below k
  · unfold Go.Proofs.YtjcfphdjgagimaaGreatDoor.putI
    have := without_len_le L p
    split
    · omega
    · unfold putR
      rw [ins_len]
      omega
  · rcases hm x hx with rfl | e
    · exact ⟨hp, hv⟩
    · exact h.txt x e
theorem kind_none {L : List (List UInt8 × LV)} (h : TreeOk (plainL L)) (p : List UInt8) : (kindL (getR (plainL L) p) = 0) ↔ (getR (plainL L) p).isNone = true := by
  rcases hg : getR (plainL L) p with _ | v
  · simp [kindL]
  · have h3 : v.1 = 1 ∨ v.1 = 2 := (h.good _ (getR_mem hg)).2.1
    refine ⟨fun e => ?_, fun e => by cases e⟩
    have e2 : v.1 = 0 := e
    omega
theorem leafO_form (o : Option LV) : ∃ vv, leafO o = .agg #[.int .i64 (kindL (o.map LV.p)), vv] := by
  rcases o with _ | ⟨k, A, c, l⟩
  · exact ⟨_, rfl⟩
  · exact ⟨_, rfl⟩
/-- what Set gives -/
def RefTo (w w' : World) (e : Ending) (M : Int) (T : List (List UInt8 × LV)) : Prop :=
  ∃ (A' : Option Addr) (c' : Nat) (l : List (List UInt8 × LV)), e = .returned (.tuple #[.slice A' l.length c', .int .i64 M]) ∧ Hid (l = T) ∧ Its w' A' l ∧ Below w.heap.size w w'
set_option maxRecDepth 100000 in
set_option maxHeartbeats 4000000 in
theorem refSet_any (A : Option Addr) (c : Nat) (L : List (List UInt8 × LV)) (p : List UInt8) (k : Int) (bA : Option Addr) (bc : Nat) (bl : List UInt8) (w : World) (h : Its w A L) (hok : TreeOk (plainL L)) (hy : BV.ok w (fun _ => True) ⟨bA, bc, bl⟩) (hp : p.length ≤ 1048576) (hn : bl.length ≤ 140737488355328) :
    Calls Tryz.prog 20 #[.slice A L.length c, .string ⟨⟨p⟩⟩, .agg #[.int .i64 k, .slice bA bl.length bc]] w fun e w' => RefTo w w' e (mayS (plainL L) p (k, bl)) (if mayS (plainL L) p (k, bl) = 0 then putI L p ⟨k, ⟨bA, bc, bl⟩⟩ else L) := by
  obtain ⟨M, hM⟩ : ∃ M, M = mayS (plainL L) p (k, bl) := ⟨_, rfl⟩
  obtain ⟨T, hT⟩ : ∃ T, T = if M = 0 then putI L p ⟨k, ⟨bA, bc, bl⟩⟩ else L := ⟨_, rfl⟩
  rw [← hM, ← hT]
  have HM := Lib.hid hM
  have HA : Hid (M = 0 → Hid (T = putI L p ⟨k, ⟨bA, bc, bl⟩⟩)) := fun e => Lib.hid (by rw [hT, if_pos e])
  have HB : Hid (M ≠ 0 → Hid (L = T)) := fun e => Lib.hid (by rw [hT, if_neg e])
  have HT := Lib.hid h
  have HY := Lib.hid hy
  have hpl : (plainL L).length = L.length := by simp [plainL]
  have hLn : L.length ≤ 1000000 := by have := hok.len; rw [hpl] at this; omega
  have hb0 : Below w.heap.size w (w.alloc (.cells #[.int .i64 k, .slice bA bl.length bc] 46)) := (by repeat (first | exact Below.refl _ _ | refine Below.alloc ?_ (by simp) _ | refine Below.setCell ?_ (by simp) _ | refine Below.drew ?_))
  have x0 := Blk.new w 46 #[.int .i64 k, .slice bA bl.length bc]
  have HCK := Lib.hid (fun W => leafCheckR_any k bA bl.length bc W hn)
  clear h hM hT hy
  go_enter Tryz.func20, Tryz.ntmps20
  go_wp2_with fail
  refine (refGood_any ⟨⟨p⟩⟩ (by show p.length ≤ _; omega) _).mono ?_
  rintro e w1 ⟨rfl, hb1⟩
  rw [show tl ⟨⟨p⟩⟩ = p from rfl]
  have hw1 := hb0.trans (hb1.mono hb0.size)
  have x1 := x0.below hb1
  clear hb1 x0 hb0
  cases hg : goodB p
  · obtain rfl : M = 23 := by rw [HM.out]; unfold mayS; rw [if_pos hg]
    obtain rfl := (HB.out (by decide)).out
    clear HM
    go_wp2_with fail
    go_ret2
    exact ⟨A, c, L, rfl, rfl, HT.out.below hw1, hw1⟩
  · have hp96 := goodB_len hg
    have q0 : w1.cell? ⟨w.heap.size, 0, none⟩ = some (.int .i64 k) := x1.cell 0
    have q1 : w1.cell? ⟨w.heap.size, 1, none⟩ = some (.slice bA bl.length bc) := x1.cell 1
    go_wp2_with fail
    refine (HCK.out _).mono ?_
    rintro e w2 ⟨rfl, hb2⟩
    have hw2 := hw1.trans (hb2.mono hw1.size)
    have x2 := x1.below hb2
    clear q0 q1 hb2 x1 hw1 HCK
    by_cases hc : checkN k bl.length = 0
    · rw [hc]
      have q0 : w2.cell? ⟨w.heap.size, 0, none⟩ = some (.int .i64 k) := x2.cell 0
      have HM1 : Hid (M = if k ≠ 2 ∧ ((keysR (plainL L)).filter fun q => underB q p) ≠ [] then 22 else if k = 0 then 0 else (if (parT p).2 = true ∧ kindL (getR (plainL L) (parT p).1) ≠ 2 then 22 else if (getR (plainL L) p).isNone ∧ 128 ≤ (plainL L).length then 24 else 0)) := by
        show _ = _
        rw [HM.out]
        unfold mayS
        rw [if_neg (by rw [hg]; simp), if_neg (by simpa using hc)]
      clear HM
      have hk := checkN_kind hc
      clear hc
      rcases hk with rfl | rfl | rfl
      · have HM : Hid (M = if ((keysR (plainL L)).filter fun q => underB q p) ≠ [] then 22 else 0) := by
          show _ = _
          rw [HM1.out]
          simp
        clear HM1
        go_wp2_with fail
        refine (refBelow_any A c L p w2 (HT.out.below hw2) hp).mono ?_
        rintro e w3 ⟨⟨A3, c3, l3, rfl, hl3, _⟩, hb3⟩
        have hw3 := hw2.trans (hb3.mono hw2.size)
        have xb := x2.below hb3
        have hlk : ((keysR (plainL L)).filter fun q => underB q p) = l3 := by rw [keys_plain]; exact hl3.out.symm
        rw [hlk] at HM
        clear hl3 hlk q0 x2 hb3
        have q0 : w3.cell? ⟨w.heap.size, 0, none⟩ = some (.int .i64 0) := xb.cell 0
        rcases l3 with _ | ⟨y, l3⟩
        · rw [if_neg (by simp)] at HM
          go_wp2_with fail
          obtain rfl : M = 0 := HM.out
          have hTv := HA.out rfl
          clear HM
          refine (refWithout_any A c L p w3 (HT.out.below hw3)).mono ?_
          rintro e w7 ⟨⟨A7, c7, l7, rfl, hl7, ho7⟩, hb7⟩
          have hw7 := hw3.trans (hb7.mono hw3.size)
          have hI7 : Its w7 A7 l7 := by
            rw [hl7.out] at ho7 ⊢
            exact HT.out.without ho7 hw7
          have e7 : Hid (l7 = T) := by show _ = _; rw [hl7.out, hTv.out]; rfl
          clear hl7 ho7
          go_wp2_with fail
          go_ret2
          exact ⟨A7, c7, l7, rfl, e7, hI7, hw7⟩
        · rw [if_pos (by simp)] at HM
          obtain rfl : M = 22 := HM.out
          obtain rfl := (HB.out (by decide)).out
          have hl0 : 0 < (y :: l3).length := by simp
          generalize (y :: l3).length = n3 at *
          clear HM
          go_wp2_with fail
          go_ret2
          exact ⟨A, c, L, rfl, rfl, HT.out.below hw3, hw3⟩

      · have HM : Hid (M = if ((keysR (plainL L)).filter fun q => underB q p) ≠ [] then 22 else (if (parT p).2 = true ∧ kindL (getR (plainL L) (parT p).1) ≠ 2 then 22 else if (getR (plainL L) p).isNone ∧ 128 ≤ (plainL L).length then 24 else 0)) := by
          show _ = _
          rw [HM1.out]
          simp
        clear HM1
        go_wp2_with fail
        refine (refBelow_any A c L p w2 (HT.out.below hw2) hp).mono ?_
        rintro e w3 ⟨⟨A3, c3, l3, rfl, hl3, _⟩, hb3⟩
        have hw3 := hw2.trans (hb3.mono hw2.size)
        have xb := x2.below hb3
        have hlk : ((keysR (plainL L)).filter fun q => underB q p) = l3 := by rw [keys_plain]; exact hl3.out.symm
        rw [hlk] at HM
        clear hl3 hlk q0 x2 hb3
        have q0 : w3.cell? ⟨w.heap.size, 0, none⟩ = some (.int .i64 1) := xb.cell 0
        rcases l3 with _ | ⟨y, l3⟩
        · rw [if_neg (by simp)] at HM
          go_wp2_with fail
          clear q0
          refine (refParent_any ⟨⟨p⟩⟩ (by show p.length ≤ _; omega) w3).mono ?_
          rintro e w4 ⟨⟨⟨t⟩⟩, rfl, ht, hb4⟩
          rw [show tl ⟨⟨p⟩⟩ = p from rfl, show tl ⟨⟨t⟩⟩ = t from rfl] at ht
          have htl : t.length ≤ 96 := by rw [ht.out]; exact parT_len p
          have hpo := par_ne p
          rw [← ht.out] at hpo HM
          have hw4 := hw3.trans (hb4.mono hw3.size)
          have xb4 := xb.below hb4
          clear ht hb4 xb
          by_cases ht0 : t = []
          · subst ht0
            rw [if_neg (by rw [hpo]; simp)] at HM
            clear hpo
            go_wp2_with fail
            refine (refGet08_any A c L p w4 (HT.out.below hw4) (by omega)).mono ?_
            rintro e w6 ⟨rfl, hb6⟩
            have hw6 := hw4.trans (hb6.mono hw4.size)
            have xb6 := xb4.below hb6
            clear hb6 xb4
            have hkn := kind_none hok p
            rw [get_plain] at hkn HM
            obtain ⟨vv, hv⟩ := leafO_form (getR L p)
            rw [hv]
            generalize kindL ((getR L p).map LV.p) = kp at *
            have hfk := fun W => leaf_kind kp vv W
            clear hv
            by_cases hk0 : kp = 0
            · subst hk0
              have hin := hkn.1 rfl
              rw [hin] at HM
              by_cases h128 : 128 ≤ L.length
              · obtain rfl : M = 24 := by rw [HM.out, if_pos ⟨rfl, by rw [hpl]; exact h128⟩]
                obtain rfl := (HB.out (by decide)).out
                clear HM hkn hin
                go_wp2_with fail
                go_ret2
                exact ⟨A, c, L, rfl, rfl, HT.out.below hw6, hw6⟩
              · obtain rfl : M = 0 := by rw [HM.out, if_neg (fun e => h128 (by rw [← hpl]; exact e.2))]
                have hTv := HA.out rfl
                clear HM hkn hin
                have q0 : w6.cell? ⟨w.heap.size, 0, none⟩ = some (.int .i64 1) := xb6.cell 0
                have q1 : w6.cell? ⟨w.heap.size, 1, none⟩ = some (.slice bA bl.length bc) := xb6.cell 1
                go_wp2_with fail
                refine (refPut_any A c L p 1 bA bc bl w6 (HT.out.below hw6) hp hLn).mono ?_
                rintro e w7 ⟨⟨A7, c7, l7, rfl, hl7, ho7⟩, hb7⟩
                have hw7 := hw6.trans (hb7.mono hw6.size)
                have hI7 : Its w7 A7 l7 := by
                  rw [hl7.out] at ho7 ⊢
                  exact HT.out.putI ho7 HY.out hp hn hLn hw7
                have e7 : Hid (l7 = T) := by show _ = _; rw [hl7.out, hTv.out]
                clear hl7 ho7
                go_wp2_with fail
                go_ret2
                exact ⟨A7, c7, l7, rfl, e7, hI7, hw7⟩
            · have hk0b : (kp == 0) = false := by simpa using hk0
              obtain rfl : M = 0 := by rw [HM.out, if_neg (fun e => hk0 (hkn.2 e.1))]
              have hTv := HA.out rfl
              clear HM hkn hk0
              have q0 : w6.cell? ⟨w.heap.size, 0, none⟩ = some (.int .i64 1) := xb6.cell 0
              have q1 : w6.cell? ⟨w.heap.size, 1, none⟩ = some (.slice bA bl.length bc) := xb6.cell 1
              go_wp2_with fail
              refine (refPut_any A c L p 1 bA bc bl w6 (HT.out.below hw6) hp hLn).mono ?_
              rintro e w7 ⟨⟨A7, c7, l7, rfl, hl7, ho7⟩, hb7⟩
              have hw7 := hw6.trans (hb7.mono hw6.size)
              have hI7 : Its w7 A7 l7 := by
                rw [hl7.out] at ho7 ⊢
                exact HT.out.putI ho7 HY.out hp hn hLn hw7
              have e7 : Hid (l7 = T) := by show _ = _; rw [hl7.out, hTv.out]
              clear hl7 ho7
              go_wp2_with fail
              go_ret2
              exact ⟨A7, c7, l7, rfl, e7, hI7, hw7⟩
          · have htb : (t == []) = false := by simpa using ht0
            have h2t : (parT p).2 = true := hpo.2 ht0
            rw [h2t, get_plain] at HM
            clear hpo h2t
            go_wp2_with fail
            refine (refGet08_any A c L t w4 (HT.out.below hw4) (by omega)).mono ?_
            rintro e w5 ⟨rfl, hb5⟩
            have hw5 := hw4.trans (hb5.mono hw4.size)
            have xb5 := xb4.below hb5
            clear hb5 xb4
            obtain ⟨vt, hvt⟩ := leafO_form (getR L t)
            rw [hvt]
            generalize kindL ((getR L t).map LV.p) = kt at *
            have hft := fun W => leaf_kind kt vt W
            clear hvt
            by_cases hk2 : kt = 2
            · subst hk2
              rw [if_neg (by simp)] at HM
              go_wp2_with fail
              refine (refGet08_any A c L p w5 (HT.out.below hw5) (by omega)).mono ?_
              rintro e w6 ⟨rfl, hb6⟩
              have hw6 := hw5.trans (hb6.mono hw5.size)
              have xb6 := xb5.below hb6
              clear hb6 xb5
              have hkn := kind_none hok p
              rw [get_plain] at hkn HM
              obtain ⟨vv, hv⟩ := leafO_form (getR L p)
              rw [hv]
              generalize kindL ((getR L p).map LV.p) = kp at *
              have hfk := fun W => leaf_kind kp vv W
              clear hv
              by_cases hk0 : kp = 0
              · subst hk0
                have hin := hkn.1 rfl
                rw [hin] at HM
                by_cases h128 : 128 ≤ L.length
                · obtain rfl : M = 24 := by rw [HM.out, if_pos ⟨rfl, by rw [hpl]; exact h128⟩]
                  obtain rfl := (HB.out (by decide)).out
                  clear HM hkn hin
                  go_wp2_with fail
                  go_ret2
                  exact ⟨A, c, L, rfl, rfl, HT.out.below hw6, hw6⟩
                · obtain rfl : M = 0 := by rw [HM.out, if_neg (fun e => h128 (by rw [← hpl]; exact e.2))]
                  have hTv := HA.out rfl
                  clear HM hkn hin
                  have q0 : w6.cell? ⟨w.heap.size, 0, none⟩ = some (.int .i64 1) := xb6.cell 0
                  have q1 : w6.cell? ⟨w.heap.size, 1, none⟩ = some (.slice bA bl.length bc) := xb6.cell 1
                  go_wp2_with fail
                  refine (refPut_any A c L p 1 bA bc bl w6 (HT.out.below hw6) hp hLn).mono ?_
                  rintro e w7 ⟨⟨A7, c7, l7, rfl, hl7, ho7⟩, hb7⟩
                  have hw7 := hw6.trans (hb7.mono hw6.size)
                  have hI7 : Its w7 A7 l7 := by
                    rw [hl7.out] at ho7 ⊢
                    exact HT.out.putI ho7 HY.out hp hn hLn hw7
                  have e7 : Hid (l7 = T) := by show _ = _; rw [hl7.out, hTv.out]
                  clear hl7 ho7
                  go_wp2_with fail
                  go_ret2
                  exact ⟨A7, c7, l7, rfl, e7, hI7, hw7⟩
              · have hk0b : (kp == 0) = false := by simpa using hk0
                obtain rfl : M = 0 := by rw [HM.out, if_neg (fun e => hk0 (hkn.2 e.1))]
                have hTv := HA.out rfl
                clear HM hkn hk0
                have q0 : w6.cell? ⟨w.heap.size, 0, none⟩ = some (.int .i64 1) := xb6.cell 0
                have q1 : w6.cell? ⟨w.heap.size, 1, none⟩ = some (.slice bA bl.length bc) := xb6.cell 1
                go_wp2_with fail
                refine (refPut_any A c L p 1 bA bc bl w6 (HT.out.below hw6) hp hLn).mono ?_
                rintro e w7 ⟨⟨A7, c7, l7, rfl, hl7, ho7⟩, hb7⟩
                have hw7 := hw6.trans (hb7.mono hw6.size)
                have hI7 : Its w7 A7 l7 := by
                  rw [hl7.out] at ho7 ⊢
                  exact HT.out.putI ho7 HY.out hp hn hLn hw7
                have e7 : Hid (l7 = T) := by show _ = _; rw [hl7.out, hTv.out]
                clear hl7 ho7
                go_wp2_with fail
                go_ret2
                exact ⟨A7, c7, l7, rfl, e7, hI7, hw7⟩
            · have hk2b : (kt != 2) = true := by simpa using hk2
              obtain rfl : M = 22 := by rw [HM.out, if_pos ⟨trivial, hk2⟩]
              obtain rfl := (HB.out (by decide)).out
              clear HM hk2
              go_wp2_with fail
              go_ret2
              exact ⟨A, c, L, rfl, rfl, HT.out.below hw5, hw5⟩

        · rw [if_pos (by simp)] at HM
          obtain rfl : M = 22 := HM.out
          obtain rfl := (HB.out (by decide)).out
          have hl0 : 0 < (y :: l3).length := by simp
          generalize (y :: l3).length = n3 at *
          clear HM
          go_wp2_with fail
          go_ret2
          exact ⟨A, c, L, rfl, rfl, HT.out.below hw3, hw3⟩

      · have HM : Hid (M = (if (parT p).2 = true ∧ kindL (getR (plainL L) (parT p).1) ≠ 2 then 22 else if (getR (plainL L) p).isNone ∧ 128 ≤ (plainL L).length then 24 else 0)) := by
          show _ = _
          rw [HM1.out]
          simp
        clear HM1
        go_wp2_with fail
        have xb := x2
        clear x2
        clear q0
        refine (refParent_any ⟨⟨p⟩⟩ (by show p.length ≤ _; omega) w2).mono ?_
        rintro e w4 ⟨⟨⟨t⟩⟩, rfl, ht, hb4⟩
        rw [show tl ⟨⟨p⟩⟩ = p from rfl, show tl ⟨⟨t⟩⟩ = t from rfl] at ht
        have htl : t.length ≤ 96 := by rw [ht.out]; exact parT_len p
        have hpo := par_ne p
        rw [← ht.out] at hpo HM
        have hw4 := hw2.trans (hb4.mono hw2.size)
        have xb4 := xb.below hb4
        clear ht hb4 xb
        by_cases ht0 : t = []
        · subst ht0
          rw [if_neg (by rw [hpo]; simp)] at HM
          clear hpo
          go_wp2_with fail
          refine (refGet08_any A c L p w4 (HT.out.below hw4) (by omega)).mono ?_
          rintro e w6 ⟨rfl, hb6⟩
          have hw6 := hw4.trans (hb6.mono hw4.size)
          have xb6 := xb4.below hb6
          clear hb6 xb4
          have hkn := kind_none hok p
          rw [get_plain] at hkn HM
          obtain ⟨vv, hv⟩ := leafO_form (getR L p)
          rw [hv]
          generalize kindL ((getR L p).map LV.p) = kp at *
          have hfk := fun W => leaf_kind kp vv W
          clear hv
          by_cases hk0 : kp = 0
          · subst hk0
            have hin := hkn.1 rfl
            rw [hin] at HM
            by_cases h128 : 128 ≤ L.length
            · obtain rfl : M = 24 := by rw [HM.out, if_pos ⟨rfl, by rw [hpl]; exact h128⟩]
              obtain rfl := (HB.out (by decide)).out
              clear HM hkn hin
              go_wp2_with fail
              go_ret2
              exact ⟨A, c, L, rfl, rfl, HT.out.below hw6, hw6⟩
            · obtain rfl : M = 0 := by rw [HM.out, if_neg (fun e => h128 (by rw [← hpl]; exact e.2))]
              have hTv := HA.out rfl
              clear HM hkn hin
              have q0 : w6.cell? ⟨w.heap.size, 0, none⟩ = some (.int .i64 2) := xb6.cell 0
              have q1 : w6.cell? ⟨w.heap.size, 1, none⟩ = some (.slice bA bl.length bc) := xb6.cell 1
              go_wp2_with fail
              refine (refPut_any A c L p 2 bA bc bl w6 (HT.out.below hw6) hp hLn).mono ?_
              rintro e w7 ⟨⟨A7, c7, l7, rfl, hl7, ho7⟩, hb7⟩
              have hw7 := hw6.trans (hb7.mono hw6.size)
              have hI7 : Its w7 A7 l7 := by
                rw [hl7.out] at ho7 ⊢
                exact HT.out.putI ho7 HY.out hp hn hLn hw7
              have e7 : Hid (l7 = T) := by show _ = _; rw [hl7.out, hTv.out]
              clear hl7 ho7
              go_wp2_with fail
              go_ret2
              exact ⟨A7, c7, l7, rfl, e7, hI7, hw7⟩
          · have hk0b : (kp == 0) = false := by simpa using hk0
            obtain rfl : M = 0 := by rw [HM.out, if_neg (fun e => hk0 (hkn.2 e.1))]
            have hTv := HA.out rfl
            clear HM hkn hk0
            have q0 : w6.cell? ⟨w.heap.size, 0, none⟩ = some (.int .i64 2) := xb6.cell 0
            have q1 : w6.cell? ⟨w.heap.size, 1, none⟩ = some (.slice bA bl.length bc) := xb6.cell 1
            go_wp2_with fail
            refine (refPut_any A c L p 2 bA bc bl w6 (HT.out.below hw6) hp hLn).mono ?_
            rintro e w7 ⟨⟨A7, c7, l7, rfl, hl7, ho7⟩, hb7⟩
            have hw7 := hw6.trans (hb7.mono hw6.size)
            have hI7 : Its w7 A7 l7 := by
              rw [hl7.out] at ho7 ⊢
              exact HT.out.putI ho7 HY.out hp hn hLn hw7
            have e7 : Hid (l7 = T) := by show _ = _; rw [hl7.out, hTv.out]
            clear hl7 ho7
            go_wp2_with fail
            go_ret2
            exact ⟨A7, c7, l7, rfl, e7, hI7, hw7⟩
        · have htb : (t == []) = false := by simpa using ht0
          have h2t : (parT p).2 = true := hpo.2 ht0
          rw [h2t, get_plain] at HM
          clear hpo h2t
          go_wp2_with fail
          refine (refGet08_any A c L t w4 (HT.out.below hw4) (by omega)).mono ?_
          rintro e w5 ⟨rfl, hb5⟩
          have hw5 := hw4.trans (hb5.mono hw4.size)
          have xb5 := xb4.below hb5
          clear hb5 xb4
          obtain ⟨vt, hvt⟩ := leafO_form (getR L t)
          rw [hvt]
          generalize kindL ((getR L t).map LV.p) = kt at *
          have hft := fun W => leaf_kind kt vt W
          clear hvt
          by_cases hk2 : kt = 2
          · subst hk2
            rw [if_neg (by simp)] at HM
            go_wp2_with fail
            refine (refGet08_any A c L p w5 (HT.out.below hw5) (by omega)).mono ?_
            rintro e w6 ⟨rfl, hb6⟩
            have hw6 := hw5.trans (hb6.mono hw5.size)
            have xb6 := xb5.below hb6
            clear hb6 xb5
            have hkn := kind_none hok p
            rw [get_plain] at hkn HM
            obtain ⟨vv, hv⟩ := leafO_form (getR L p)
            rw [hv]
            generalize kindL ((getR L p).map LV.p) = kp at *
            have hfk := fun W => leaf_kind kp vv W
            clear hv
            by_cases hk0 : kp = 0
            · subst hk0
              have hin := hkn.1 rfl
              rw [hin] at HM
              by_cases h128 : 128 ≤ L.length
              · obtain rfl : M = 24 := by rw [HM.out, if_pos ⟨rfl, by rw [hpl]; exact h128⟩]
                obtain rfl := (HB.out (by decide)).out
                clear HM hkn hin
                go_wp2_with fail
                go_ret2
                exact ⟨A, c, L, rfl, rfl, HT.out.below hw6, hw6⟩
              · obtain rfl : M = 0 := by rw [HM.out, if_neg (fun e => h128 (by rw [← hpl]; exact e.2))]
                have hTv := HA.out rfl
                clear HM hkn hin
                have q0 : w6.cell? ⟨w.heap.size, 0, none⟩ = some (.int .i64 2) := xb6.cell 0
                have q1 : w6.cell? ⟨w.heap.size, 1, none⟩ = some (.slice bA bl.length bc) := xb6.cell 1
                go_wp2_with fail
                refine (refPut_any A c L p 2 bA bc bl w6 (HT.out.below hw6) hp hLn).mono ?_
                rintro e w7 ⟨⟨A7, c7, l7, rfl, hl7, ho7⟩, hb7⟩
                have hw7 := hw6.trans (hb7.mono hw6.size)
                have hI7 : Its w7 A7 l7 := by
                  rw [hl7.out] at ho7 ⊢
                  exact HT.out.putI ho7 HY.out hp hn hLn hw7
                have e7 : Hid (l7 = T) := by show _ = _; rw [hl7.out, hTv.out]
                clear hl7 ho7
                go_wp2_with fail
                go_ret2
                exact ⟨A7, c7, l7, rfl, e7, hI7, hw7⟩
            · have hk0b : (kp == 0) = false := by simpa using hk0
              obtain rfl : M = 0 := by rw [HM.out, if_neg (fun e => hk0 (hkn.2 e.1))]
              have hTv := HA.out rfl
              clear HM hkn hk0
              have q0 : w6.cell? ⟨w.heap.size, 0, none⟩ = some (.int .i64 2) := xb6.cell 0
              have q1 : w6.cell? ⟨w.heap.size, 1, none⟩ = some (.slice bA bl.length bc) := xb6.cell 1
              go_wp2_with fail
              refine (refPut_any A c L p 2 bA bc bl w6 (HT.out.below hw6) hp hLn).mono ?_
              rintro e w7 ⟨⟨A7, c7, l7, rfl, hl7, ho7⟩, hb7⟩
              have hw7 := hw6.trans (hb7.mono hw6.size)
              have hI7 : Its w7 A7 l7 := by
                rw [hl7.out] at ho7 ⊢
                exact HT.out.putI ho7 HY.out hp hn hLn hw7
              have e7 : Hid (l7 = T) := by show _ = _; rw [hl7.out, hTv.out]
              clear hl7 ho7
              go_wp2_with fail
              go_ret2
              exact ⟨A7, c7, l7, rfl, e7, hI7, hw7⟩
          · have hk2b : (kt != 2) = true := by simpa using hk2
            obtain rfl : M = 22 := by rw [HM.out, if_pos ⟨trivial, hk2⟩]
            obtain rfl := (HB.out (by decide)).out
            clear HM hk2
            go_wp2_with fail
            go_ret2
            exact ⟨A, c, L, rfl, rfl, HT.out.below hw5, hw5⟩

    · obtain rfl : M = checkN k bl.length := by rw [HM.out]; unfold mayS; rw [if_neg (by rw [hg]; simp), if_pos (by simpa using hc)]
      obtain rfl := (HB.out hc).out
      have hcb : (checkN k bl.length != 0) = true := by simpa using hc
      clear HM
      go_wp2_with fail
      go_ret2
      exact ⟨A, c, L, rfl, rfl, HT.out.below hw2, hw2⟩

end Go.Proofs.YtjcfphdjgagimaaGreatDoor

/- A map stays where only new memory comes. No program. -/
namespace Go.Proofs.YtjcfphdjgagimaaGreatDoor
open Go.RowKit Go.Maps

theorem MapAt.below {P : Program} {K : TypeId} {w w' : World} {b : Nat} {L : List (List UInt8 × Value)} (h : MapAt w P K b L) (k : Below w.heap.size w w') : MapAt w' P K b L := h.block (k.block b h.lt)
end Go.Proofs.YtjcfphdjgagimaaGreatDoor
