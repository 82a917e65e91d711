/- NameUps is true for every input: the parent of any path, all paths above it, and whether it is under another one, are the document's. No condition beyond the row's own. -/
import Derived.Test.YtffimpjjdhnajaaNameUps2
import Derived.Test.YtffimpjjdhnajaaNameLives
namespace Go.Proofs.Ytffimpjjdhnajaa
open Go.RowKit

theorem ups_under {p x : List UInt8} (h : x ∈ upsL p) : underB p x = true := by
  unfold upsL at h
  cases hg : goodB p
  · rw [hg] at h; simp at h
  · rw [hg, if_pos rfl] at h
    obtain ⟨n, hn, rfl⟩ := List.mem_map.1 h
    have hn' := List.mem_range.1 hn
    have h1 : (cutL p).take (n + 1) ≠ [] := take_ne (by omega) (cutL_pos p)
    have h2 : cutL (pasteL ((cutL p).take (n + 1))) = (cutL p).take (n + 1) := cut_paste _ h1 (fun y hy => cut_no p y (List.mem_of_mem_take hy))
    have h3 : preB p (pasteL ((cutL p).take (n + 1))) = true := (preB_iff _ _).2 ⟨(cutL p).drop (n + 1), drop_ne (by omega), by rw [h2, List.take_append_drop]⟩
    unfold underB
    rw [hg, good_pre hg h3, h3]; rfl
theorem ups_len (p : List UInt8) : decide ((upsL p).length = 0) = !(parT p).2 := by
  unfold upsL parT
  cases hg : goodB p
  · simp
  · by_cases h : 1 < (cutL p).length
    · simp [h]; omega
    · simp [h]; omega
theorem par_ok (p : List UInt8) : (parT p).2 = !(parT p).1.isEmpty := by
  unfold parT
  split
  · rename_i h
    simp only [Bool.and_eq_true, decide_eq_true_eq] at h
    have hne : pasteL (cutL p).dropLast ≠ [] := by
      intro e
      have h1 : (cutL p).dropLast ≠ [] := by intro e2; have := congrArg List.length e2; rw [List.length_dropLast] at this; simp at this; omega
      have h2 := cut_paste (cutL p).dropLast h1 (fun y hy => cut_no p y ((List.dropLast_sublist _).subset hy))
      rw [e] at h2
      have h3 := h.1
      unfold goodB at h3
      simp only [Bool.and_eq_true] at h3
      have h4 := List.all_eq_true.1 h3.1.2 [] ((List.dropLast_sublist _).subset (by rw [← h2]; simp [cutL]))
      simp [partB] at h4
    simp [hne]
  · rfl
set_option maxRecDepth 100000 in
set_option maxHeartbeats 1000000 in
theorem nameUps_any (a b : ByteArray) (ha : a.size ≤ 140737488355328) (hb : b.size ≤ 140737488355328) (w : World) : Calls Try.prog 5 #[.string a, .string b] w fun e w' => e = .returned (.bool true) ∧ Below w.heap.size w w' := by
  by_cases hn : a.size + b.size ≤ 300
  · have h1 : (a.size : Int) + (b.size : Int) ≤ 300 := by omega
    have hul := Lib.hid (ups_len (tl a))
    go_enter Try.func5, Try.ntmps5
    go_wp2_with fail
    refine (parent_any a (by omega) _).mono ?_
    rintro e w1 ⟨t, ok, rfl, ht, hb1⟩
    have ht1 := congrArg Prod.fst ht.out
    have ht2 := congrArg Prod.snd ht.out
    dsimp only at ht1 ht2
    rw [← ht2] at hul
    rw [par_ok] at ht2
    have HT := Lib.hid ht1
    have HOK : Hid (ok = !t.toList.isEmpty) := by show _ = _; rw [ht2, ← ht1, ByteArray.toList_eq]
    clear ht ht1 ht2
    go_wp2_with fail
    refine (ups_any a (by omega) _).mono ?_
    rintro e w2 ⟨A, c, l, rfl, hl, hst, hb2⟩
    replace hb2 := bthen hb1 hb2
    have hll : l.length ≤ 300 := by
      rw [hl.out]
      unfold upsL
      split
      · rw [List.length_map, List.length_range]
        have := cutL_len (tl a)
        rw [tl_len] at this
        omega
      · simp
    rw [← hl.out] at hul
    go_wp2_with fail
    refine (refParent_any a (by omega) _).mono ?_
    rintro e w3 ⟨r, rfl, hr, hb3⟩
    replace hst := hst.below hb3
    replace hb3 := bthen hb2 hb3
    obtain rfl : t = r := tl_inj (HT.out.trans hr.out.symm)
    obtain rfl := HOK.out
    clear HT HOK hr hb1 hb2
    have HU := Lib.hid (fun w => under_any a b (by omega) (by omega) w)
    have HV := Lib.hid (fun w => refUnder_any a b (by omega) (by omega) w)
    generalize underB (tl a) (tl b) = U at *
    go_wp2_with fail
    refine (refUps_any a (by omega) _).mono ?_
    rintro e w4 ⟨A', c', l', rfl, hl', hst', hb4⟩
    obtain rfl : l' = l := hl'.out.trans hl.out.symm
    replace hst := hst.below hb4
    replace hb4 := bthen hb3 hb4
    go_wp2_with fail
    refine (refSame03_any A A' c c' l' l' _ _ _ hst.rd hst'.rd (by omega)).mono ?_
    rw [show (l' == l') = true by simp]
    rintro e w5 ⟨rfl, hq5⟩
    replace hst := hst.below hq5.below
    replace hb5 := bthen hb4 hq5.below
    go_wp2_with fail
    refine (HU.out _).mono ?_
    rintro e w6 ⟨rfl, hb6⟩
    replace hst := hst.below hb6
    replace hb6 := bthen hb5 hb6
    go_wp2_with fail
    refine (HV.out _).mono ?_
    rintro e w7 ⟨rfl, hb7⟩
    replace hst := hst.below hb7
    replace hb7 := bthen hb6 hb7
    clear hst' hb3 hb4 hb5 hb6 hl' hq5
    have hmem : ∀ x ∈ l', x.length ≤ 300 ∧ underB (tl a) x = true := by
      intro x hx
      rw [hl.out] at hx
      have h1 := ups_under hx
      refine ⟨?_, h1⟩
      unfold underB at h1
      simp only [Bool.and_eq_true] at h1
      have := goodB_len h1.1.2
      omega
    have HMEM := Lib.hid hmem
    clear hmem
    go_wp2_with fail
    go_loopw [52] (fun iv wr => ∃ i : Nat, i ≤ l'.length ∧ iv = .int .i64 (i : Int) ∧ Below w7.heap.size w7 wr) (fun iv _ => l'.length - (intOf iv).toNat)
    case atStart => exact ⟨0, Nat.zero_le _, rfl, Below.refl _ _⟩
    case round =>
      obtain ⟨i, hi, rfl, hbw⟩ := hrel
      by_cases hlt : i < l'.length
      · obtain ⟨x, hx⟩ : ∃ z, l'[i]? = some z := ⟨_, List.getElem?_eq_getElem hlt⟩
        obtain ⟨g, off, rfl, hgb, hgl, hcell, hfz⟩ := (hst.below hbw).get hx
        have hxm := HMEM.out x (List.mem_of_getElem? hx)
        have HX := Lib.hid (fun w => under_any a ⟨⟨x⟩⟩ (by omega) (by show x.length ≤ _; omega) w)
        rw [show tl ⟨⟨x⟩⟩ = x from rfl, hxm.2] at HX
        clear hxm hx hfz
        unfold stv at hcell
        go_wp2_with fail
        refine (HX.out _).mono ?_
        rintro e w8 ⟨rfl, hb8⟩
        go_wp2_with fail
        go_roundw
        case rel => exact ⟨i + 1, hlt, by go_num, bthen hbw hb8⟩
        case measure => simp [intOf]; omega
      · have e0 : t.toList.isEmpty = ((l'.length : Int) == 0) := by
          have h := hul.out
          rw [Bool.not_not] at h
          rw [← h, Bool.eq_iff_iff]
          simp
        have E0 := Lib.hid e0
        clear hul e0
        cases ht0 : t.toList.isEmpty
        · have e1 : ((l'.length : Int) == 0) = false := by rw [← E0.out, ht0]
          clear E0
          go_wp2_with fail
          refine (lives03_any _).mono ?_
          rintro e w9 ⟨rfl, hb9⟩
          go_wp2_with fail
          go_ret
          exact ⟨rfl, bthen hb7 (bthen hbw hb9)⟩
        · have e1 : ((l'.length : Int) == 0) = true := by rw [← E0.out, ht0]
          clear E0
          go_wp2_with fail
          refine (lives03_any _).mono ?_
          rintro e w9 ⟨rfl, hb9⟩
          go_wp2_with fail
          go_ret
          exact ⟨rfl, bthen hb7 (bthen hbw hb9)⟩
  · have h1 : 300 < (a.size : Int) + (b.size : Int) := by omega
    go_enter Try.func5, Try.ntmps5
    go_wp2_with fail
    refine (lives03_any _).mono ?_
    rintro e w1 ⟨rfl, hb1⟩
    go_wp2_with fail
    go_ret
    exact ⟨rfl, hb1⟩
end Go.Proofs.Ytffimpjjdhnajaa
