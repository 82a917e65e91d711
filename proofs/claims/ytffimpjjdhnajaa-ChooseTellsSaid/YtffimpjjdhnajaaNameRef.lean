/- tenderref03: Cut, part, Good, User. -/
import Derived.Test.YtffimpjjdhnajaaNameUser
import Derived.Test.YtffimpjjdhnajaaRow
import Derived.Deep.RegionHeld3
namespace Go.Proofs.Ytffimpjjdhnajaa
open Go.RowKit

theorem str_info : (Try.prog.info? 9).map (fun i => (i.zero, i.size, i.bytes)) = some (some (.string ⟨#[]⟩), 1, 16) := by kernel_rfl
/-- texts in a row of their own -/
def Sts (w : World) (base : Nat) (A : Option Addr) (c : Nat) (l : List (List UInt8)) : Prop := Row w base 9 1 A l.length c (l.map stv)
theorem Sts.at_ {w : World} {base c i : Nat} {A : Option Addr} {l : List (List UInt8)} (h : Sts w base A c l) (hi : i < l.length) : ∃ g off, A = some ⟨g, off, none⟩ ∧ base ≤ g ∧ g < w.heap.size ∧ w.cell? ⟨g, off + i, none⟩ = some (stv l[i]) ∧ ∀ j, w.frozen? ⟨g, j, none⟩ = false := by
  obtain ⟨g, off, rfl, hb, hlt⟩ := Row.addr h (by omega)
  exact ⟨g, off, rfl, hb, hlt, Row.cell h (by rw [List.getElem?_map, List.getElem?_eq_getElem hi]; rfl), fun j => Row.frozen h j⟩
theorem Sts.get {w : World} {base c i : Nat} {A : Option Addr} {l : List (List UInt8)} {x : List UInt8} (h : Sts w base A c l) (hi : l[i]? = some x) : ∃ g off, A = some ⟨g, off, none⟩ ∧ base ≤ g ∧ g < w.heap.size ∧ w.cell? ⟨g, off + i, none⟩ = some (stv x) ∧ ∀ j, w.frozen? ⟨g, j, none⟩ = false := by
  obtain ⟨hlt, rfl⟩ := List.getElem?_eq_some_iff.1 hi
  exact h.at_ hlt
theorem Sts.below {w w' : World} {base c : Nat} {A : Option Addr} {l : List (List UInt8)} (h : Sts w base A c l) (k : Below w.heap.size w w') : Sts w' base A c l := Row.below h k
theorem Sts.rd {w : World} {base c : Nat} {A : Option Addr} {l : List (List UInt8)} (h : Sts w base A c l) : Rd w (fun b => ablk A = some b) 1 A l.length (l.map stv) := Row.rd h
theorem Sts.lit1 (w : World) {base : Nat} (l : List UInt8) (hb : base ≤ w.heap.size) : Sts (w.alloc (.cells #[stv l] 9)) base (some ⟨w.heap.size, 0, none⟩) 1 [l] :=
  Row.of_own (World.ownsRow_lit (base := base) (e := 9) (size := 1) w #[stv l] 1 hb (by simp [maxLen]) (by simp))
theorem st_one (l : List (List UInt8)) : ∀ u ∈ l.map stv, u.oneCell' = true := by
  intro u hu
  obtain ⟨x, _, rfl⟩ := List.mem_map.1 hu
  rfl
theorem tl_one (s : ByteArray) (i : Nat) (hi : i < s.size) : tl (s.extract i (i + 1)) = [s[i]] := by
  have h : (tl s)[i]? = some s[i] := by rw [List.getElem?_eq_getElem (by rw [tl_len]; exact hi)]; rfl
  have e : tl (s.extract i (i + 1)) = ((tl s).drop i).take 1 := by
    simp only [tl, ByteArray.data_extract, Array.toList_extract, List.extract_eq_take_drop]
    rw [show i + 1 - i = 1 by omega]
  rw [e, List.drop_eq_getElem_cons (by rw [tl_len]; exact hi), List.take_succ_cons, List.take_zero]
  rfl
theorem take_one (s : ByteArray) (i : Nat) (hi : i < s.size) : (tl s).take (i + 1) = (tl s).take i ++ [s[i]] := by
  rw [List.take_succ_eq_append_getElem (by rw [tl_len]; exact hi)]; rfl

theorem cutL_len : ∀ l : List UInt8, (cutL l).length ≤ l.length + 1
  | [] => by simp [cutL]
  | c :: l => by
    have := cutL_len l
    have h0 := cutL_pos l
    rw [cutL]
    split
    · simp; omega
    · simp; omega
theorem under_short_v (s t : ByteArray) : stv (tl s ++ tl t) = .string (s ++ t) := by rw [← under_short]; rfl
theorem cut_mem_len : ∀ l : List UInt8, ∀ x ∈ cutL l, x.length ≤ l.length
  | [], x, h => by simp [cutL] at h; simp [h]
  | c :: l, x, h => by
    have ih := cut_mem_len l
    obtain ⟨y, ys, e⟩ := List.exists_cons_of_ne_nil (cutL_ne l)
    rw [cutL] at h
    rw [e] at ih h
    split at h
    · rcases List.mem_cons.1 h with rfl | h
      · simp
      · have := ih x h; simp; omega
    · rw [List.headD_cons, List.tail_cons] at h
      rcases List.mem_cons.1 h with rfl | h
      · have := ih y (by simp); simp; omega
      · have := ih x (by simp [h]); simp; omega
theorem snoc_set {l : List (List UInt8)} {m : Nat} {x y : List UInt8} (hm : l.length = m + 1) (hx : l[m]? = some x) : l.dropLast ++ [l.getLastD [] ++ y] = l.set m (x ++ y) := by
  obtain ⟨l', z, rfl⟩ : ∃ l' z, l = l' ++ [z] := ⟨l.dropLast, l.getLast (by rintro rfl; simp at hm), (List.dropLast_concat_getLast _).symm⟩
  have hl : l'.length = m := by simpa using hm
  subst hl
  have : z = x := by simpa using hx
  subst this
  simp
set_option maxRecDepth 100000 in
set_option maxHeartbeats 1000000 in
theorem refCut_any (s : ByteArray) (hs : s.size ≤ 1048576) (w : World) :
    Calls Try.prog 27 #[.string s] w fun e w' => ∃ A c l, e = .returned (.slice A l.length c) ∧ Hid (l = cutL (tl s)) ∧ Sts w' w.heap.size A c l ∧ Below w.heap.size w w' := by
  obtain ⟨i0, hi0, hz0, hz1, hz2⟩ := info_parts str_info
  go_enter Try.func27, Try.ntmps27
  go_wp2_with fail
  go_loopw [3, 4] (fun ov iv wr => ∃ (i : Nat) (A : Option Addr) (c : Nat) (l : List (List UInt8)), i ≤ s.size ∧ iv = .int .i64 (i : Int) ∧ ov = .slice A l.length c ∧ Hid (l = cutL ((tl s).take i)) ∧ Sts wr w.heap.size A c l ∧ Below w.heap.size w wr) (fun _ iv _ => s.size - (intOf iv).toNat)
  case atStart => exact ⟨0, _, 1, [[]], Nat.zero_le _, rfl, rfl, by show _ = _; simp [cutL], Sts.lit1 w [] (Nat.le_refl _), (Below.refl _ _).alloc (Nat.le_refl _) _⟩
  case round =>
    obtain ⟨i, A, c, l, hi, rfl, rfl, hl, hst, hb⟩ := hrel
    have hln : l.length ≤ i + 1 := by
      rw [hl.out]
      have := cutL_len ((tl s).take i)
      rw [List.length_take] at this
      omega
    have hl0 : 0 < l.length := by rw [hl.out]; exact cutL_pos _
    by_cases hlt : i < s.size
    · have HT := Lib.hid (take_one s i hlt)
      obtain ⟨m, hm⟩ : ∃ m : Nat, l.length = m + 1 := ⟨l.length - 1, by omega⟩
      obtain ⟨x, hx⟩ : ∃ x, l[m]? = some x := ⟨_, List.getElem?_eq_getElem (by omega)⟩
      obtain ⟨g, off, rfl, hgb, hgl, hcell, hfz⟩ := hst.get hx
      have hsz := hb.size
      have HX := Lib.hid hx
      clear hx
      have HM := Lib.hid hm
      have HC := Lib.hid hcell
      have HF := Lib.hid hfz
      have hm1 : (m : Int) + 1 ≤ (l.length : Int) := by omega
      clear hcell hfz hm
      go_wp2_with (at_builtin; refine wpList_append_row _ rfl (.tmp 16) (.tmp 17) 31 rfl w.heap.size 9 i0 _ 1 16 Try.underlying31 hi0 hz0 hz1 hz2 rfl (by omega) rfl (Row.alloc hst (.cells #[stv []] 9)) rfl (Rd.lit (xs := [stv []]) (n := 1) rfl rfl rfl) (by simp [Value.oneCell', stv]) (by simp only [maxLen]; omega) (by omega) (by simp; omega) ?_; intro A3 c3 w3 hrow3 hg3 hat3)
      · have hc1 : ((s[i].toNat : Int) == 47) = true := by assumption
        have hc : s[i] = 47 := UInt8.toNat_inj.1 (by rw [beq_iff_eq] at hc1; rw [show (47 : UInt8).toNat = 47 from rfl]; omega)
        have HL : Hid (l ++ [[]] = cutL ((tl s).take (i + 1))) := by show _ = _; rw [HT.out, cutL_snoc, if_pos hc, hl.out]
        go_roundw
        case rel =>
          refine ⟨i + 1, A3, c3, l ++ [[]], hlt, by go_num, by simp, HL, ?_, ?_⟩
          · unfold Sts
            rw [List.length_append, List.map_append]
            exact hrow3
          · refine (hb.alloc hsz _).grown hg3 (by simp; omega) (fun k e => ?_)
            injection e with e
            have e' : g = k := e
            omega
        case measure => simp [intOf]; omega
      · have hc1 : ((s[i].toNat : Int) == 47) = false := by assumption
        have hc : ¬ s[i] = 47 := by intro e; rw [e] at hc1; simp at hc1
        have HL : Hid (l.set m (x ++ [s[i]]) = cutL ((tl s).take (i + 1))) := by
          show _ = _
          rw [HT.out, cutL_snoc, if_neg hc, ← hl.out]
          exact (snoc_set HM.out HX.out).symm
        have hcell := HC.out
        unfold stv at hcell
        have hfz := HF.out (off + m)
        have hw1 : IntKind.i64.wrap ((l.length : Int) - 1) = (m : Int) := by rw [show (l.length : Int) - 1 = (m : Int) by have := HM.out; omega]; exact IntWalk.i64_in _ (by omega)
        have hw2 : IntKind.i64.wrap ((i : Int) + 1) = (i : Int) + 1 := IntWalk.i64_in _ (by omega)
        have b1 : (0 : Int) ≤ (m : Int) := by omega
        have b2 : (m : Int) < (l.length : Int) := by omega
        have b3 : (0 : Int) ≤ (i : Int) := by omega
        have b4 : (i : Int) ≤ (i : Int) + 1 := by omega
        have b5 : (i : Int) + 1 ≤ (s.size : Int) := by omega
        have b6 : ((i : Int) + 1).toNat = i + 1 := by omega
        have hxl : x.length ≤ i := by
          have := cut_mem_len _ _ (show x ∈ cutL ((tl s).take i) by rw [← hl.out]; exact List.mem_of_getElem? HX.out)
          rw [List.length_take] at this
          omega
        have b7 : x.length + (min (i + 1) s.size - i) ≤ 9223372036854775807 := by omega
        clear hm1 hxl
        go_region
        all_goals
          go_wp2_with fail
          go_roundw
          case rel =>
            have hrow : Row (wr.drew.setCell ⟨g, off + m, none⟩ (.string (⟨⟨x⟩⟩ ++ s.extract i (i + 1)))) w.heap.size 9 1 (some ⟨g, off, none⟩) l.length c ((l.map stv).set m (.string (⟨⟨x⟩⟩ ++ s.extract i (i + 1)))) := (Row.drew hst).put m _
            refine ⟨i + 1, some ⟨g, off, none⟩, c, l.set m (x ++ [s[i]]), hlt, by go_num, by rw [List.length_set], HL, ?_, ?_⟩
            · unfold Sts
              rw [List.length_set, List.map_set, show stv (x ++ [s[i]]) = .string (⟨⟨x⟩⟩ ++ s.extract i (i + 1)) by rw [← tl_one s i hlt]; exact (under_short_v ⟨⟨x⟩⟩ (s.extract i (i + 1)))]
              exact hrow
            · exact hb.drew.setCell (p := ⟨g, off + m, none⟩) hgb _
          case measure => simp [intOf]; omega
    · go_wp2_with fail
      go_ret
      exact ⟨A, c, l, rfl, by show _ = _; rw [hl.out, List.take_of_length_le (by rw [tl_len]; omega)], hst, hb⟩

set_option maxRecDepth 100000 in
theorem refPart_any (s : ByteArray) (hs : s.size ≤ 9223372036854775807) (w : World) : Calls Try.prog 65 #[.string s] w fun e w' => e = .returned (.bool (partB (tl s))) ∧ w = w' := by
  obtain ⟨a, ha⟩ : ∃ a, s.data.toList = a := ⟨_, rfl⟩
  have HL := Lib.hid (show a.length = s.size by rw [← ha]; exact tl_len s)
  have EA := Lib.hid (show s.toList = a by rw [ByteArray.toList_eq, ha])
  have HA := Lib.hid ha
  rw [show tl s = a from ha]
  clear ha
  go_enter Try.func65, Try.ntmps65
  go_wp2_with fail
  go_loop [3] (fun iv => ∃ i : Nat, i ≤ s.size ∧ iv = .int .i64 (i : Int) ∧ Hid (∀ c ∈ a.take i, c ≠ 0)) (fun iv => s.size - (intOf iv).toNat)
  case atStart => exact ⟨0, Nat.zero_le _, rfl, by show ∀ c ∈ a.take 0, c ≠ 0; simp⟩
  case round =>
    obtain ⟨i, hi, rfl, hz⟩ := hrel
    by_cases hlt : i < s.size
    · have HE : Hid (a[i]? = some s[i]) := by
        show _ = _
        rw [← HA.out, List.getElem?_eq_getElem (show i < s.data.toList.length from by rw [show s.data.toList.length = s.size from tl_len s]; exact hlt)]
        rfl
      go_wp2_with fail
      · have hc : ((s[i].toNat : Int) == 0) = true := by assumption
        go_ret
        refine ⟨ret_b ?_, rfl⟩
        have e : s[i] = 0 := UInt8.toNat_inj.1 (by rw [beq_iff_eq] at hc; rw [show (0 : UInt8).toNat = 0 from rfl]; omega)
        rw [e] at HE
        have hm := List.mem_of_getElem? HE.out
        unfold partB
        simp [hm]
      · have hc : ((s[i].toNat : Int) == 0) = false := by assumption
        go_round
        case rel =>
          refine ⟨i + 1, hlt, by go_num, ?_⟩
          show ∀ c ∈ a.take (i + 1), c ≠ 0
          intro c hcm
          rw [List.take_add_one, HE.out] at hcm
          rcases List.mem_append.1 hcm with h | h
          · exact hz.out c h
          · simp at h
            rw [h]
            intro e
            rw [e] at hc
            simp at hc
        case measure => simp [intOf]; omega
    · have hz2 : Hid (a.contains 0 = false) := by
        show _ = _
        rw [List.contains_eq_mem, decide_eq_false_iff_not]
        intro h
        exact hz.out 0 (by rw [List.take_of_length_le (by rw [HL.out]; omega)]; exact h) rfl
      clear hz
      have HM : Hid (a.isEmpty = decide (s.size < 1)) := by
        show _ = _
        rw [Bool.eq_iff_iff, List.isEmpty_iff, decide_eq_true_eq, ← HL.out]
        constructor
        · rintro rfl; simp
        · intro h; exact List.length_eq_zero_iff.1 (by omega)
      go_wp2_with fail
      all_goals
        go_ret
        refine ⟨ret_b ?_, rfl⟩
        simp only [EA.out] at *
        unfold partB
        rw [HM.out, HL.out, hz2.out]
      · have h1 : a = [46] := by assumption
        rw [h1]; simp
      · have h1 : (1 : Int) ≤ (s.size : Int) := by assumption
        have h2 : (s.size : Int) ≤ 24 := by assumption
        rw [decide_eq_false (by omega : ¬ s.size < 1), decide_eq_true (by omega : s.size ≤ 24)]; simp
      · have h2 : 24 < (s.size : Int) := by assumption
        rw [decide_eq_false (by omega : ¬ s.size ≤ 24)]; simp
      · have h2 : (s.size : Int) < 1 := by assumption
        rw [decide_eq_true (by omega : s.size < 1)]; simp
set_option maxRecDepth 100000 in
set_option maxHeartbeats 1000000 in
theorem refGood_any (s : ByteArray) (hs : s.size ≤ 9223372036854775807) (w : World) : Calls Try.prog 18 #[.string s] w fun e w' => e = .returned (.bool (goodB (tl s))) ∧ Below w.heap.size w w' := by
  by_cases h96 : s.size ≤ 96
  · have HG := Lib.hid (show goodB (tl s) = ((cutL (tl s)).all partB && decide ((cutL (tl s)).length ≤ 6)) by unfold goodB; rw [tl_len]; simp [h96])
    obtain ⟨R, hR⟩ : ∃ R, R = goodB (tl s) := ⟨_, rfl⟩
    rw [← hR]
    have HR := Lib.hid (hR.trans HG.out)
    clear hR HG
    go_enter Try.func18, Try.ntmps18
    go_wp2_with fail
    refine (refCut_any s (by omega) _).mono ?_
    rintro e w1 ⟨A, c, l, rfl, hl, hst, hb⟩
    rw [← hl.out] at HR
    have hll : l.length ≤ 97 := by
      have := cutL_len (tl s)
      rw [hl.out, tl_len] at *
      omega
    have hml : ∀ x ∈ l, x.length ≤ 96 := by
      intro x hx
      rw [hl.out] at hx
      have := cut_mem_len _ _ hx
      rw [tl_len] at this
      omega
    go_wp2_with fail
    go_loopw [4] (fun iv wr => ∃ i : Nat, i ≤ l.length ∧ iv = .int .i64 (i : Int) ∧ Hid ((l.take i).all partB = true) ∧ w1 = wr) (fun iv _ => l.length - (intOf iv).toNat)
    case atStart => exact ⟨0, Nat.zero_le _, rfl, by show _ = _; simp, rfl⟩
    case round =>
      obtain ⟨i, hi, rfl, hz, rfl⟩ := hrel
      by_cases hlt : i < l.length
      · obtain ⟨x, hx⟩ : ∃ x, l[i]? = some x := ⟨_, List.getElem?_eq_getElem hlt⟩
        obtain ⟨g, off, rfl, hgb, hgl, hcell, hfz⟩ := hst.get hx
        have HP := Lib.hid (fun w => refPart_any ⟨⟨x⟩⟩ (by have := hml x (List.mem_of_getElem? hx); show x.length ≤ _; omega) w)
        have HX := Lib.hid hx
        clear hx
        unfold stv at hcell
        go_wp2_with fail
        refine (HP.out _).mono ?_
        rintro e w2 ⟨rfl, rfl⟩
        rw [show tl ⟨⟨x⟩⟩ = x from rfl]
        cases hp : partB x
        · have HPX := Lib.hid hp
          clear hp
          go_wp2_with fail
          go_ret
          refine ⟨ret_b ?_, hb⟩
          rw [HR.out]
          have : l.all partB = false := by
            rw [List.all_eq_false]
            exact ⟨x, List.mem_of_getElem? HX.out, by rw [HPX.out]; simp⟩
          rw [this]; rfl
        · have HPX := Lib.hid hp
          clear hp
          go_wp2_with fail
          go_roundw
          case rel =>
            refine ⟨i + 1, hlt, by go_num, ?_, trivial⟩
            show _ = _
            rw [List.take_add_one, HX.out, List.all_append, hz.out]
            simp [HPX.out]
          case measure => simp [intOf]; omega
      · have HZ := Lib.hid (show l.all partB = true by have := hz.out; rwa [List.take_of_length_le (by omega)] at this)
        clear hz
        go_wp2_with fail
        go_ret
        refine ⟨ret_b ?_, hb⟩
        rw [HR.out, HZ.out]
        rw [Bool.eq_iff_iff]
        simp
        omega
  · have hr : goodB (tl s) = false := by unfold goodB; rw [tl_len]; simp [h96]
    have h1 : 96 < (s.size : Int) := by omega
    rw [hr]
    clear hr
    go_enter Try.func18, Try.ntmps18
    go_wp2_with fail
    go_ret
    exact ⟨rfl, Below.refl _ _⟩
end Go.Proofs.Ytffimpjjdhnajaa
