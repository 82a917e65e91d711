/- Texts and their parts, plain: what stands between strokes, what is a part, what is a path, how texts stand. No program. -/
import Derived.WalkKit
namespace Go.Proofs.Ytffimpjjdhnajaa

/-- what stands between strokes -/
def cutL : List UInt8 → List (List UInt8)
  | [] => [[]]
  | c :: l => if c = 47 then [] :: cutL l else (c :: (cutL l).headD []) :: (cutL l).tail

theorem cutL_ne : ∀ l, cutL l ≠ []
  | [] => by simp [cutL]
  | c :: l => by unfold cutL; split <;> simp
theorem cutL_pos (l : List UInt8) : 0 < (cutL l).length := List.length_pos_iff.2 (cutL_ne l)
theorem cutL_none : ∀ {l : List UInt8}, (∀ c ∈ l, c ≠ 47) → cutL l = [l]
  | [], _ => rfl
  | c :: l, h => by
    rw [cutL, if_neg (h c (by simp)), cutL_none (fun x hx => h x (by simp [hx]))]
    rfl
theorem cutL_at : ∀ {i : Nat} {l : List UInt8}, (∀ c ∈ l.take i, c ≠ 47) → l[i]? = some 47 → cutL l = l.take i :: cutL (l.drop (i + 1))
  | _, [], _, h => by simp at h
  | 0, c :: l, _, h => by
    have : c = 47 := by simpa using h
    rw [cutL, if_pos this]
    rfl
  | i + 1, c :: l, h, h2 => by
    have ih := cutL_at (i := i) (l := l) (fun x hx => h x (by simp [hx])) (by simpa using h2)
    rw [cutL, if_neg (h c (by simp)), ih]
    rfl
/-- the last part and those ahead of it -/
theorem cutL_snoc : ∀ (l : List UInt8) (c : UInt8), cutL (l ++ [c]) = if c = 47 then cutL l ++ [[]] else (cutL l).dropLast ++ [(cutL l).getLastD [] ++ [c]]
  | [], c => by
    by_cases h : c = 47
    · simp [cutL, h]
    · simp [cutL, h]
  | x :: l, c => by
    have ih := cutL_snoc l c
    rw [List.cons_append, cutL, ih]
    have hn := cutL_ne l
    obtain ⟨y, ys, e⟩ := List.exists_cons_of_ne_nil hn
    by_cases h : c = 47
    · rw [if_pos h, if_pos h]
      by_cases hx : x = 47
      · rw [if_pos hx]; conv => rhs; rw [cutL, if_pos hx]
        rfl
      · rw [if_neg hx]; conv => rhs; rw [cutL, if_neg hx]
        rw [e]; rfl
    · rw [if_neg h, if_neg h]
      by_cases hx : x = 47
      · rw [if_pos hx]; conv => rhs; rw [cutL, if_pos hx]
        rw [e]
        rfl
      · rw [if_neg hx]; conv => rhs; rw [cutL, if_neg hx]
        rw [e]
        cases ys with
        | nil => rfl
        | cons z zs => rfl
/-- parts, with strokes between -/
def pasteL : List (List UInt8) → List UInt8
  | [] => []
  | [x] => x
  | x :: y :: l => x ++ 47 :: pasteL (y :: l)
theorem paste_cut : ∀ l, pasteL (cutL l) = l
  | [] => rfl
  | c :: l => by
    have ih := paste_cut l
    obtain ⟨y, ys, e⟩ := List.exists_cons_of_ne_nil (cutL_ne l)
    rw [cutL]
    rw [e] at ih ⊢
    split
    · rename_i h; subst h; rw [pasteL, ih]; rfl
    · cases ys with
      | nil => rw [List.headD_cons, List.tail_cons, pasteL]; rw [pasteL] at ih; rw [ih]
      | cons z zs => rw [List.headD_cons, List.tail_cons, pasteL, List.cons_append]; rw [pasteL] at ih; rw [ih]
theorem cut_no : ∀ l, ∀ x ∈ cutL l, ∀ c ∈ x, c ≠ 47
  | [], x, hx => by simp [cutL] at hx; subst hx; simp
  | c :: l, x, hx => by
    have ih := cut_no l
    obtain ⟨y, ys, e⟩ := List.exists_cons_of_ne_nil (cutL_ne l)
    rw [cutL] at hx
    rw [e] at ih hx
    split at hx
    · rcases List.mem_cons.1 hx with rfl | hx
      · simp
      · exact ih x hx
    · rename_i h
      rw [List.headD_cons, List.tail_cons] at hx
      rcases List.mem_cons.1 hx with rfl | hx
      · intro d hd
        rcases List.mem_cons.1 hd with rfl | hd
        · exact h
        · exact ih y (by simp) d hd
      · exact ih x (by simp [hx])
theorem cut_paste : ∀ (l : List (List UInt8)), l ≠ [] → (∀ x ∈ l, ∀ c ∈ x, c ≠ 47) → cutL (pasteL l) = l
  | [], h, _ => (h rfl).elim
  | [x], _, h => by rw [pasteL]; exact cutL_none (h x (by simp))
  | x :: y :: l, _, h => by
    rw [pasteL]
    have e := cutL_at (i := x.length) (l := x ++ 47 :: pasteL (y :: l)) (by rw [List.take_left']; exact h x (by simp); rfl) (by simp)
    rw [e, List.take_left' rfl, show List.drop (x.length + 1) (x ++ 47 :: pasteL (y :: l)) = pasteL (y :: l) by rw [← List.drop_drop, List.drop_left' rfl]; rfl]
    rw [cut_paste (y :: l) (by simp) (fun z hz => h z (by simp [hz]))]
/-- is it a part? -/
def partB (s : List UInt8) : Bool := !s.isEmpty && decide (s.length ≤ 24) && !(s == [46]) && !(s == [46, 46]) && !(s.contains 0)
/-- is it a path? -/
def goodB (p : List UInt8) : Bool := decide (p.length ≤ 96) && (cutL p).all partB && decide ((cutL p).length ≤ 6)
end Go.Proofs.Ytffimpjjdhnajaa
