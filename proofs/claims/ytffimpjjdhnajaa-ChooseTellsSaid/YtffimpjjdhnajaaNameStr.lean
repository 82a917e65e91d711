/- Texts as Go's strings: strings.Cut at a stroke, name.part. -/
import Derived.Test.YtffimpjjdhnajaaNameLaws
import Derived.Test.YtffimpjjdhnajaaShelf
import Derived.Test.YtffimpjjdhnajaaSmall
import Derived.Lib.IndexLaws
import Derived.Outline
import Derived.IntWalk
namespace Go.Proofs.Ytffimpjjdhnajaa
open Go.RowKit

/-- a text's bytes -/
abbrev tl (s : ByteArray) : List UInt8 := s.data.toList
theorem tl_head (s : ByteArray) (i : Nat) : tl (s.extract 0 i) = (tl s).take i := by simp [tl]
theorem tl_tail (s : ByteArray) (i : Nat) : tl (s.extract i s.size) = (tl s).drop i := by
  simp only [tl, ByteArray.data_extract, Array.toList_extract, List.extract_eq_take_drop]
  exact List.take_of_length_le (by simp)
theorem tl_len (s : ByteArray) : (tl s).length = s.size := by simp [tl]
theorem tl_inj {s t : ByteArray} (h : tl s = tl t) : s = t := by
  obtain ⟨⟨l⟩⟩ := s
  obtain ⟨⟨m⟩⟩ := t
  have : l = m := h
  rw [this]
/-- test's facts of two texts -/
theorem neq_yes {s t : ByteArray} (h : s = t) : (!s.toList == t.toList) = false := by subst h; simp
theorem neq_no {s t : ByteArray} (h : s ≠ t) : (!s.toList == t.toList) = true := by
  simp only [ByteArray.toList_eq, Bool.not_eq_true', beq_eq_false_iff_ne, ne_eq]
  exact fun e => h (tl_inj e)
theorem eq_yes {s t : ByteArray} (h : s = t) : (s.toList == t.toList) = true := by subst h; simp
theorem eq_no {s t : ByteArray} (h : s ≠ t) : (s.toList == t.toList) = false := by
  simp only [ByteArray.toList_eq, beq_eq_false_iff_ne, ne_eq]
  exact fun e => h (tl_inj e)
/-- nothing but draws -/
def Qt (w w' : World) : Prop := ∃ n, w' = w.drewN n
theorem Qt.refl (w : World) : Qt w w := ⟨0, rfl⟩
theorem Qt.trans {a b c : World} (h : Qt a b) (k : Qt b c) : Qt a c := by
  obtain ⟨n, rfl⟩ := h
  obtain ⟨m, rfl⟩ := k
  exact ⟨n + m, by rw [World.drewN_drewN]⟩
theorem Qt.below {a b : World} (h : Qt a b) : Below a.heap.size a b := by
  obtain ⟨n, rfl⟩ := h
  exact ⟨rfl, rfl, rfl, Nat.le_refl _, fun _ _ => rfl⟩

theorem liteCut_at (s : ByteArray) (i : Nat) (w : World) (h : Hid (Lib.indexByte (tl s) 47 = (i : Int))) (hi : i < s.size) (hs : s.size ≤ 9223372036854775807) :
    Calls Try.prog 84 #[.string s, .string ⟨#[47]⟩] w fun e w' => e = .returned (.tuple #[.string (s.extract 0 i), .string (s.extract (i + 1) s.size), .bool true]) ∧ Qt w w' := by
  have hw1 : IntKind.i64.wrap ((i : Int) + 1) = (i : Int) + 1 := IntWalk.i64_in _ (by omega)
  have b1 : (i : Int) ≤ (s.size : Int) := by omega
  have b2 : (0 : Int) ≤ (i : Int) + 1 := by omega
  have b3 : (i : Int) + 1 ≤ (s.size : Int) := by omega
  have b4 : ((i : Int) + 1).toNat = i + 1 := by omega
  go_enter Try.func84, Try.ntmps84
  go_wp2_with fail
  refine (Try.stringslite_Index_one s 47 w).mono ?_
  rw [h.out]
  rintro e w1 ⟨rfl, rfl⟩
  go_wp2_with fail
  go_quiet (fail)
  go_wp2_with fail
  go_ret3
  exact ⟨rfl, _, rfl⟩
theorem liteCut_none (s : ByteArray) (w : World) (h : Hid (Lib.indexByte (tl s) 47 = -1)) :
    Calls Try.prog 84 #[.string s, .string ⟨#[47]⟩] w fun e w' => e = .returned (.tuple #[.string s, .string ⟨#[]⟩, .bool false]) ∧ Qt w w' := by
  go_enter Try.func84, Try.ntmps84
  go_wp2_with fail
  refine (Try.stringslite_Index_one s 47 w).mono ?_
  rw [h.out]
  rintro e w1 ⟨rfl, rfl⟩
  go_wp2_with fail
  go_ret3
  exact ⟨rfl, Qt.refl _⟩
theorem strCut_at (s : ByteArray) (i : Nat) (w : World) (h : Hid (Lib.indexByte (tl s) 47 = (i : Int))) (hi : i < s.size) (hs : s.size ≤ 9223372036854775807) :
    Calls Try.prog 59 #[.string s, .string ⟨#[47]⟩] w fun e w' => e = .returned (.tuple #[.string (s.extract 0 i), .string (s.extract (i + 1) s.size), .bool true]) ∧ Qt w w' := by
  go_enter Try.func59, Try.ntmps59
  go_wp2_with fail
  refine (liteCut_at s i w h hi hs).mono ?_
  rintro e w1 ⟨rfl, n, rfl⟩
  go_wp2_with fail
  go_ret3
  exact ⟨rfl, _, rfl⟩
theorem strCut_none (s : ByteArray) (w : World) (h : Hid (Lib.indexByte (tl s) 47 = -1)) :
    Calls Try.prog 59 #[.string s, .string ⟨#[47]⟩] w fun e w' => e = .returned (.tuple #[.string s, .string ⟨#[]⟩, .bool false]) ∧ Qt w w' := by
  go_enter Try.func59, Try.ntmps59
  go_wp2_with fail
  refine (liteCut_none s w h).mono ?_
  rintro e w1 ⟨rfl, n, rfl⟩
  go_wp2_with fail
  go_ret3
  exact ⟨rfl, _, rfl⟩
/-- the two ways of it -/
theorem cut_ways (s : ByteArray) : (Lib.indexByte (tl s) 47 = -1 ∧ cutL (tl s) = [tl s]) ∨
    (∃ i : Nat, Lib.indexByte (tl s) 47 = (i : Int) ∧ i < s.size ∧ cutL (tl s) = tl (s.extract 0 i) :: cutL (tl (s.extract (i + 1) s.size))) := by
  have hg := Lib.indexByte_ge (tl s) 47
  rcases Int.lt_or_le (Lib.indexByte (tl s) 47) 0 with h | h
  · have h1 : Lib.indexByte (tl s) 47 = -1 := by omega
    refine .inl ⟨h1, cutL_none fun c hc => ?_⟩
    obtain ⟨k, hk, rfl⟩ := List.getElem_of_mem hc
    intro e
    exact Lib.indexByte_none h1 k (by rw [List.getElem?_eq_getElem hk, e])
  · obtain ⟨i, hi⟩ : ∃ i : Nat, Lib.indexByte (tl s) 47 = (i : Int) := ⟨_, (Int.toNat_of_nonneg h).symm⟩
    obtain ⟨h1, h2⟩ := Lib.indexByte_some hi
    have hlt : i < s.size := by have := (List.getElem?_eq_some_iff.1 h1).1; simpa using this
    refine .inr ⟨i, hi, hlt, ?_⟩
    rw [tl_head, tl_tail]
    refine cutL_at (fun c hc e => ?_) h1
    obtain ⟨k, hk, rfl⟩ := List.getElem_of_mem hc
    rw [List.getElem_take] at e
    have hk' : k < i := by rw [List.length_take] at hk; omega
    exact h2 k hk' (by rw [← e, List.getElem?_eq_getElem])

theorem index_contains (l : List UInt8) (c : UInt8) : decide (Lib.indexByte l c < 0) = !l.contains c := by
  have hg := Lib.indexByte_ge l c
  by_cases h : Lib.indexByte l c < 0
  · have h1 := Lib.indexByte_none (show Lib.indexByte l c = -1 by omega)
    rw [decide_eq_true h, eq_comm]
    simp only [Bool.not_eq_true', List.contains_eq_mem, decide_eq_false_iff_not]
    intro hc
    obtain ⟨k, hk, e⟩ := List.getElem_of_mem hc
    exact h1 k (by rw [List.getElem?_eq_getElem hk, e])
  · obtain ⟨i, hi⟩ : ∃ i : Nat, Lib.indexByte l c = (i : Int) := ⟨_, (Int.toNat_of_nonneg (by omega)).symm⟩
    have h1 := (Lib.indexByte_some hi).1
    rw [decide_eq_false h, eq_comm]
    simp only [Bool.not_eq_false', List.contains_eq_mem, decide_eq_true_eq]
    exact List.mem_of_getElem? h1
theorem part_any (s : ByteArray) (w : World) : Calls Try.prog 68 #[.string s] w fun e w' => e = .returned (.bool (partB (tl s))) ∧ w = w' := by
  obtain ⟨a, ha⟩ : ∃ a, s.data.toList = a := ⟨_, rfl⟩
  have HI := Lib.hid (index_contains a 0)
  have HL := Lib.hid (show a.length = s.size by rw [← ha]; exact tl_len s)
  have EA := Lib.hid (show s.toList = a by rw [ByteArray.toList_eq, ha])
  have HX := Try.strings_IndexByte s 0 w
  rw [ha] at HX
  rw [show tl s = a from ha]
  clear ha
  go_enter Try.func68, Try.ntmps68
  go_wp2_with (first | (go_at_call 69; refine HX.mono ?_; rintro e w1 ⟨rfl, rfl⟩))
  all_goals
    go_ret
    refine ⟨ret_b ?_, rfl⟩
    simp only [EA.out] at *
    have h1 := HI.out
    have h2 := HL.out
    clear HI HL HX
    unfold partB
    simp_all
    all_goals first
      | (intro hx; omega)
      | (rw [decide_eq_true (by omega : s.size ≤ 24)]; simp)
end Go.Proofs.Ytffimpjjdhnajaa
