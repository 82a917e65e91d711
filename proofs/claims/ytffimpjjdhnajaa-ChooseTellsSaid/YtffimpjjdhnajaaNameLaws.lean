/- Texts and their parts, plain: how they stand, what is under what, where one stands once another was moved. No program. -/
import Derived.Test.YtffimpjjdhnajaaNameMath
namespace Go.Proofs.Ytffimpjjdhnajaa

/-- a way to compare -/
structure Ord3 {α : Type} (c : α → α → Int) : Prop where
  rng : ∀ a b, c a b = -1 ∨ c a b = 0 ∨ c a b = 1
  flip : ∀ a b, c b a = - c a b
  eq : ∀ a b, c a b = 0 ↔ a = b
  trans : ∀ a b d, c a b < 0 → c b d < 0 → c a d < 0
/-- one behind the other; what ends first stands first -/
def cmpL {α : Type} (c : α → α → Int) : List α → List α → Int
  | [], [] => 0
  | [], _ :: _ => -1
  | _ :: _, [] => 1
  | x :: l, y :: m => if c x y = 0 then cmpL c l m else c x y
theorem Ord3.list {α : Type} {c : α → α → Int} (h : Ord3 c) : Ord3 (cmpL c) where
  rng := by
    intro a
    induction a with
    | nil => intro b; cases b <;> simp [cmpL]
    | cons x l ih =>
      intro b
      cases b with
      | nil => simp [cmpL]
      | cons y m =>
        rw [cmpL]
        split
        · exact ih m
        · exact h.rng x y
  flip := by
    intro a
    induction a with
    | nil => intro b; cases b <;> simp [cmpL]
    | cons x l ih =>
      intro b
      cases b with
      | nil => simp [cmpL]
      | cons y m =>
        rw [cmpL, cmpL, h.flip x y]
        by_cases h0 : c x y = 0
        · rw [if_pos (by omega), if_pos h0]; exact ih m
        · rw [if_neg (by omega), if_neg h0]
  eq := by
    intro a
    induction a with
    | nil => intro b; cases b <;> simp [cmpL]
    | cons x l ih =>
      intro b
      cases b with
      | nil => simp [cmpL]
      | cons y m =>
        rw [cmpL]
        by_cases h0 : c x y = 0
        · rw [if_pos h0, ih m, (h.eq x y).1 h0]; simp
        · rw [if_neg h0]
          constructor
          · intro h1; exact (h0 h1).elim
          · intro h1; injection h1 with h1 _; exact (h0 ((h.eq x y).2 h1)).elim
  trans := by
    intro a
    induction a with
    | nil => intro b d h1 h2; cases b <;> cases d <;> simp [cmpL] at h1 h2 ⊢
    | cons x l ih =>
      intro b d h1 h2
      cases b with
      | nil => simp [cmpL] at h1
      | cons y m =>
        cases d with
        | nil => simp [cmpL] at h2
        | cons z k =>
          rw [cmpL] at h1 h2 ⊢
          by_cases h0 : c x y = 0
          · rw [if_pos h0] at h1
            obtain rfl := (h.eq x y).1 h0
            by_cases h3 : c x z = 0
            · rw [if_pos h3] at h2 ⊢
              exact ih m k h1 h2
            · rw [if_neg h3] at h2 ⊢
              exact h2
          · rw [if_neg h0] at h1
            by_cases h3 : c y z = 0
            · obtain rfl := (h.eq y z).1 h3
              rw [if_neg h0]
              exact h1
            · rw [if_neg h3] at h2
              have h4 := h.trans x y z h1 h2
              rw [if_neg (by omega)]
              exact h4
/-- how two bytes stand -/
def cmp1 (a b : UInt8) : Int := if a.toNat < b.toNat then -1 else if b.toNat < a.toNat then 1 else 0
theorem ord1 : Ord3 cmp1 where
  rng a b := by unfold cmp1; split; · simp
                split <;> simp
  flip a b := by unfold cmp1; split <;> split <;> first | omega | rfl | (split <;> omega)
  eq a b := by
    unfold cmp1
    constructor
    · intro h
      split at h
      · omega
      · split at h
        · omega
        · exact UInt8.toNat_inj.1 (by omega)
    · rintro rfl; simp
  trans a b d h1 h2 := by
    unfold cmp1 at *
    split at h1
    · split at h2
      · rw [if_pos (by omega)]; omega
      · split at h2 <;> omega
    · split at h1 <;> omega
/-- how two parts stand -/
def cmpB : List UInt8 → List UInt8 → Int := cmpL cmp1
/-- how two rows of parts stand -/
def cmpP : List (List UInt8) → List (List UInt8) → Int := cmpL cmpB
theorem ordB : Ord3 cmpB := ord1.list
theorem ordP : Ord3 cmpP := ordB.list
theorem cmpB_self (x : List UInt8) : cmpB x x = 0 := (ordB.eq x x).2 rfl
/-- a row stands ahead of a longer one -/
theorem cmpP_app : ∀ (A : List (List UInt8)) {R : List (List UInt8)}, R ≠ [] → cmpP A (A ++ R) = -1
  | [], R, h => by obtain ⟨y, ys, rfl⟩ := List.exists_cons_of_ne_nil h; rfl
  | x :: A, R, h => by
    unfold cmpP
    rw [List.cons_append, cmpL, if_pos (cmpB_self x)]
    exact cmpP_app A h
/-- what stands between a row and a longer one is longer, too -/
theorem cmpP_mid : ∀ (A B R : List (List UInt8)), cmpP A B < 0 → cmpP B (A ++ R) < 0 → ∃ T, T ≠ [] ∧ B = A ++ T
  | [], B, R, h, _ => by
    cases B with
    | nil => simp [cmpP, cmpL] at h
    | cons y B => exact ⟨y :: B, by simp, rfl⟩
  | x :: A, B, R, h, h2 => by
    cases B with
    | nil => simp [cmpP, cmpL] at h
    | cons y B =>
      unfold cmpP at h h2
      rw [List.cons_append] at h2
      rw [cmpL] at h h2
      by_cases h0 : cmpB x y = 0
      · obtain rfl := (ordB.eq x y).1 h0
        rw [if_pos h0] at h h2
        obtain ⟨T, hT, rfl⟩ := cmpP_mid A B R h h2
        exact ⟨T, hT, rfl⟩
      · have h3 := ordB.flip x y
        rw [if_neg h0] at h
        rw [if_neg (by omega)] at h2
        omega
/-- how two texts stand -/
def cmpT (a b : List UInt8) : Int := cmpP (cutL a) (cutL b)
theorem cutL_inj {a b : List UInt8} (h : cutL a = cutL b) : a = b := by rw [← paste_cut a, h, paste_cut]
theorem cmpT_eq (a b : List UInt8) : cmpT a b = 0 ↔ a = b := (ordP.eq _ _).trans ⟨cutL_inj, fun h => by rw [h]⟩

theorem cut_app : ∀ (a q : List UInt8), cutL (a ++ 47 :: q) = cutL a ++ cutL q
  | [], q => by simp [cutL]
  | c :: a, q => by
    have ih := cut_app a q
    obtain ⟨y, ys, e⟩ := List.exists_cons_of_ne_nil (cutL_ne a)
    rw [List.cons_append, cutL, cutL, ih, e]
    split <;> rfl
theorem paste_app : ∀ (A R : List (List UInt8)), A ≠ [] → R ≠ [] → pasteL (A ++ R) = pasteL A ++ 47 :: pasteL R
  | [], _, h, _ => (h rfl).elim
  | [x], R, _, h => by obtain ⟨y, ys, rfl⟩ := List.exists_cons_of_ne_nil h; rfl
  | x :: y :: A, R, _, h => by
    have ih := paste_app (y :: A) R (by simp) h
    rw [List.cons_append, List.cons_append, pasteL, pasteL, ← List.cons_append, ih]
    simp
/-- is it under another one, by its bytes? -/
def preB (p top : List UInt8) : Bool := (top ++ [47]).isPrefixOf p
theorem preB_iff (p top : List UInt8) : preB p top = true ↔ ∃ T, T ≠ [] ∧ cutL p = cutL top ++ T := by
  unfold preB
  rw [List.isPrefixOf_iff_prefix]
  constructor
  · rintro ⟨q, rfl⟩
    refine ⟨cutL q, cutL_ne q, ?_⟩
    rw [List.append_assoc]
    exact cut_app top q
  · rintro ⟨T, hT, h⟩
    refine ⟨pasteL T, ?_⟩
    rw [← paste_cut p, h, paste_app _ _ (cutL_ne top) hT, paste_cut, List.append_assoc]
    rfl
/-- is it under another one? -/
def underB (p top : List UInt8) : Bool := goodB p && goodB top && preB p top
theorem all_pre {A T : List (List UInt8)} (h : (A ++ T).all partB = true) : A.all partB = true := by
  rw [List.all_append] at h
  simp only [Bool.and_eq_true] at h
  exact h.1
/-- a path's beginnings are paths -/
theorem good_pre {p top : List UInt8} (hp : goodB p = true) (h : preB p top = true) : goodB top = true := by
  obtain ⟨T, hT, e⟩ := (preB_iff p top).1 h
  have hl : top.length ≤ p.length := by
    unfold preB at h
    have := List.IsPrefix.length_le (List.isPrefixOf_iff_prefix.1 h)
    simp at this
    omega
  unfold goodB at *
  rw [e] at hp
  simp only [Bool.and_eq_true, decide_eq_true_eq] at hp ⊢
  refine ⟨⟨by omega, all_pre hp.1.2⟩, ?_⟩
  have := hp.2
  rw [List.length_append] at this
  omega
/-- the order's law on what is under a path -/
theorem under_order {a b c : List UInt8} (h : underB c a = true) : cmpT a c = -1 ∧ (cmpT a b < 0 → cmpT b c < 0 → goodB b = true → underB b a = true) := by
  unfold underB at h
  simp only [Bool.and_eq_true] at h
  obtain ⟨⟨_, ha⟩, hp⟩ := h
  obtain ⟨T, hT, e⟩ := (preB_iff c a).1 hp
  refine ⟨by unfold cmpT; rw [e]; exact cmpP_app _ hT, fun h1 h2 hb => ?_⟩
  unfold cmpT at h1 h2
  rw [e] at h2
  obtain ⟨U, hU, e2⟩ := cmpP_mid _ _ _ h1 h2
  unfold underB
  rw [hb, ha, (preB_iff b a).2 ⟨U, hU, e2⟩]
  rfl
end Go.Proofs.Ytffimpjjdhnajaa
