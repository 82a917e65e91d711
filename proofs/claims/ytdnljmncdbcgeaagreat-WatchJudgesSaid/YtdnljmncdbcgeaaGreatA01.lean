/- Texts and their parts, plain: what stands between strokes, what is a part, what is a path, how texts stand. No program. -/
import Derived.WalkKit
import Derived.Maps.RangeWalk
import Derived.Sort.KeysCollected

namespace Go.Proofs.YtdnljmncdbcgeaaGreat

/-- what stands between strokes -/
def cutL : List UInt8 → List (List UInt8)
  | [] => [[]]
  | c :: l => if c = 47 then [] :: cutL l else (c :: (cutL l).headD []) :: (cutL l).tail

theorem cutL_ne : ∀ l, cutL l ≠ []
  | [] => by simp [cutL]
  | c :: l => by unfold cutL; split <;> simp
theorem cutL_pos (l : List UInt8) : 0 < (cutL l).length := List.length_pos_iff.2 (cutL_ne l)
theorem cutL_none : ∀ {l : List UInt8}, (∀ c ∈ l, c ≠ 47) → cutL l = [l]
  | [], _ => rfl
  | c :: l, h => by
    rw [cutL, if_neg (h c (by simp)), cutL_none (fun x hx => h x (by simp [hx]))]
    rfl
theorem cutL_at : ∀ {i : Nat} {l : List UInt8}, (∀ c ∈ l.take i, c ≠ 47) → l[i]? = some 47 → cutL l = l.take i :: cutL (l.drop (i + 1))
  | _, [], _, h => by simp at h
  | 0, c :: l, _, h => by
    have : c = 47 := by simpa using h
    rw [cutL, if_pos this]
    rfl
  | i + 1, c :: l, h, h2 => by
    have ih := cutL_at (i := i) (l := l) (fun x hx => h x (by simp [hx])) (by simpa using h2)
    rw [cutL, if_neg (h c (by simp)), ih]
    rfl
/-- the last part and those ahead of it -/
theorem cutL_snoc : ∀ (l : List UInt8) (c : UInt8), cutL (l ++ [c]) = if c = 47 then cutL l ++ [[]] else (cutL l).dropLast ++ [(cutL l).getLastD [] ++ [c]]
  | [], c => by
    by_cases h : c = 47
    · simp [cutL, h]
    · simp [cutL, h]
  | x :: l, c => by
    have ih := cutL_snoc l c
    rw [List.cons_append, cutL, ih]
    have hn := cutL_ne l
    obtain ⟨y, ys, e⟩ := List.exists_cons_of_ne_nil hn
    by_cases h : c = 47
    · rw [if_pos h, if_pos h]
      by_cases hx : x = 47
      · rw [if_pos hx]; conv => rhs; rw [cutL, if_pos hx]
        rfl
      · rw [if_neg hx]; conv => rhs; rw [cutL, if_neg hx]
        rw [e]; rfl
    · rw [if_neg h, if_neg h]
      by_cases hx : x = 47
      · rw [if_pos hx]; conv => rhs; rw [cutL, if_pos hx]
        rw [e]
        rfl
      · rw [if_neg hx]; conv => rhs; rw [cutL, if_neg hx]
        rw [e]
        cases ys with
        | nil => rfl
        | cons z zs => rfl
/-- parts, with strokes between -/
def pasteL : List (List UInt8) → List UInt8
  | [] => []
  | [x] => x
  | x :: y :: l => x ++ 47 :: pasteL (y :: l)
theorem paste_cut : ∀ l, pasteL (cutL l) = l
  | [] => rfl
  | c :: l => by
    have ih := paste_cut l
    obtain ⟨y, ys, e⟩ := List.exists_cons_of_ne_nil (cutL_ne l)
    rw [cutL]
    rw [e] at ih ⊢
    split
    · rename_i h; subst h; rw [pasteL, ih]; rfl
    · cases ys with
      | nil => rw [List.headD_cons, List.tail_cons, pasteL]; rw [pasteL] at ih; rw [ih]
      | cons z zs => rw [List.headD_cons, List.tail_cons, pasteL, List.cons_append]; rw [pasteL] at ih; rw [ih]
theorem cut_no : ∀ l, ∀ x ∈ cutL l, ∀ c ∈ x, c ≠ 47
  | [], x, hx => by simp [cutL] at hx; subst hx; simp
  | c :: l, x, hx => by
    have ih := cut_no l
    obtain ⟨y, ys, e⟩ := List.exists_cons_of_ne_nil (cutL_ne l)
    rw [cutL] at hx
    rw [e] at ih hx
    split at hx
    · rcases List.mem_cons.1 hx with rfl | hx
      · simp
      · exact ih x hx
    · rename_i h
      rw [List.headD_cons, List.tail_cons] at hx
      rcases List.mem_cons.1 hx with rfl | hx
      · intro d hd
        rcases List.mem_cons.1 hd with rfl | hd
        · exact h
        · exact ih y (by simp) d hd
      · exact ih x (by simp [hx])
theorem cut_paste : ∀ (l : List (List UInt8)), l ≠ [] → (∀ x ∈ l, ∀ c ∈ x, c ≠ 47) → cutL (pasteL l) = l
  | [], h, _ => (h rfl).elim
  | [x], _, h => by rw [pasteL]; exact cutL_none (h x (by simp))
  | x :: y :: l, _, h => by
    rw [pasteL]
    have e := cutL_at (i := x.length) (l := x ++ 47 :: pasteL (y :: l)) (by rw [List.take_left']; exact h x (by simp); rfl) (by simp)
    rw [e, List.take_left' rfl, show List.drop (x.length + 1) (x ++ 47 :: pasteL (y :: l)) = pasteL (y :: l) by rw [← List.drop_drop, List.drop_left' rfl]; rfl]
    rw [cut_paste (y :: l) (by simp) (fun z hz => h z (by simp [hz]))]
/-- is it a part? -/
def partB (s : List UInt8) : Bool := !s.isEmpty && decide (s.length ≤ 24) && !(s == [46]) && !(s == [46, 46]) && !(s.contains 0)
/-- is it a path? -/
def goodB (p : List UInt8) : Bool := decide (p.length ≤ 96) && (cutL p).all partB && decide ((cutL p).length ≤ 6)
end Go.Proofs.YtdnljmncdbcgeaaGreat

/- Texts and their parts, plain: how they stand, what is under what, where one stands once another was moved. No program. -/
namespace Go.Proofs.YtdnljmncdbcgeaaGreat

/-- a way to compare -/
structure Ord3 {α : Type} (c : α → α → Int) : Prop where
  rng : ∀ a b, c a b = -1 ∨ c a b = 0 ∨ c a b = 1
  flip : ∀ a b, c b a = - c a b
  eq : ∀ a b, c a b = 0 ↔ a = b
  trans : ∀ a b d, c a b < 0 → c b d < 0 → c a d < 0
/-- one behind the other; what ends first stands first -/
def cmpL {α : Type} (c : α → α → Int) : List α → List α → Int
  | [], [] => 0
  | [], _ :: _ => -1
  | _ :: _, [] => 1
  | x :: l, y :: m => if c x y = 0 then cmpL c l m else c x y
theorem Ord3.list {α : Type} {c : α → α → Int} (h : Ord3 c) : Ord3 (cmpL c) where
  rng := by
    intro a
    induction a with
    | nil => intro b; cases b <;> simp [cmpL]
    | cons x l ih =>
      intro b
      cases b with
      | nil => simp [cmpL]
      | cons y m =>
        rw [cmpL]
        split
        · exact ih m
        · exact h.rng x y
  flip := by
    intro a
    induction a with
    | nil => intro b; cases b <;> simp [cmpL]
    | cons x l ih =>
      intro b
      cases b with
      | nil => simp [cmpL]
      | cons y m =>
        rw [cmpL, cmpL, h.flip x y]
        by_cases h0 : c x y = 0
        · rw [if_pos (by omega), if_pos h0]; exact ih m
        · rw [if_neg (by omega), if_neg h0]
  eq := by
    intro a
    induction a with
    | nil => intro b; cases b <;> simp [cmpL]
    | cons x l ih =>
      intro b
      cases b with
      | nil => simp [cmpL]
      | cons y m =>
        rw [cmpL]
        by_cases h0 : c x y = 0
        · rw [if_pos h0, ih m, (h.eq x y).1 h0]; simp
        · rw [if_neg h0]
          constructor
          · intro h1; exact (h0 h1).elim
          · intro h1; injection h1 with h1 _; exact (h0 ((h.eq x y).2 h1)).elim
  trans := by
    intro a
    induction a with
    | nil => intro b d h1 h2; cases b <;> cases d <;> simp [cmpL] at h1 h2 ⊢
    | cons x l ih =>
      intro b d h1 h2
      cases b with
      | nil => simp [cmpL] at h1
      | cons y m =>
        cases d with
        | nil => simp [cmpL] at h2
        | cons z k =>
          rw [cmpL] at h1 h2 ⊢
          by_cases h0 : c x y = 0
          · rw [if_pos h0] at h1
            obtain rfl := (h.eq x y).1 h0
            by_cases h3 : c x z = 0
            · rw [if_pos h3] at h2 ⊢
              exact ih m k h1 h2
            · rw [if_neg h3] at h2 ⊢
              exact h2
          · rw [if_neg h0] at h1
            by_cases h3 : c y z = 0
            · obtain rfl := (h.eq y z).1 h3
              rw [if_neg h0]
              exact h1
            · rw [if_neg h3] at h2
              have h4 := h.trans x y z h1 h2
              rw [if_neg (by omega)]
              exact h4
/-- how two bytes stand -/
def cmp1 (a b : UInt8) : Int := if a.toNat < b.toNat then -1 else if b.toNat < a.toNat then 1 else 0
theorem ord1 : Ord3 cmp1 where
  rng a b := by unfold cmp1; split; · simp
                split <;> simp
  flip a b := by unfold cmp1; split <;> split <;> first | omega | rfl | (split <;> omega)
  eq a b := by
    unfold cmp1
    constructor
    · intro h
      split at h
      · omega
      · split at h
        · omega
        · exact UInt8.toNat_inj.1 (by omega)
    · rintro rfl; simp
  trans a b d h1 h2 := by
    unfold cmp1 at *
    split at h1
    · split at h2
      · rw [if_pos (by omega)]; omega
      · split at h2 <;> omega
    · split at h1 <;> omega
/-- how two parts stand -/
def cmpB : List UInt8 → List UInt8 → Int := cmpL cmp1
/-- how two rows of parts stand -/
def cmpP : List (List UInt8) → List (List UInt8) → Int := cmpL cmpB
theorem ordB : Ord3 cmpB := ord1.list
theorem ordP : Ord3 cmpP := ordB.list
theorem cmpB_self (x : List UInt8) : cmpB x x = 0 := (ordB.eq x x).2 rfl
/-- a row stands ahead of a longer one -/
theorem cmpP_app : ∀ (A : List (List UInt8)) {R : List (List UInt8)}, R ≠ [] → cmpP A (A ++ R) = -1
  | [], R, h => by obtain ⟨y, ys, rfl⟩ := List.exists_cons_of_ne_nil h; rfl
  | x :: A, R, h => by
    unfold cmpP
    rw [List.cons_append, cmpL, if_pos (cmpB_self x)]
    exact cmpP_app A h
/-- what stands between a row and a longer one is longer, too -/
theorem cmpP_mid : ∀ (A B R : List (List UInt8)), cmpP A B < 0 → cmpP B (A ++ R) < 0 → ∃ T, T ≠ [] ∧ B = A ++ T
  | [], B, R, h, _ => by
    cases B with
    | nil => simp [cmpP, cmpL] at h
    | cons y B => exact ⟨y :: B, by simp, rfl⟩
  | x :: A, B, R, h, h2 => by
    cases B with
    | nil => simp [cmpP, cmpL] at h
    | cons y B =>
      unfold cmpP at h h2
      rw [List.cons_append] at h2
      rw [cmpL] at h h2
      by_cases h0 : cmpB x y = 0
      · obtain rfl := (ordB.eq x y).1 h0
        rw [if_pos h0] at h h2
        obtain ⟨T, hT, rfl⟩ := cmpP_mid A B R h h2
        exact ⟨T, hT, rfl⟩
      · have h3 := ordB.flip x y
        rw [if_neg h0] at h
        rw [if_neg (by omega)] at h2
        omega
/-- how two texts stand -/
def cmpT (a b : List UInt8) : Int := cmpP (cutL a) (cutL b)
theorem cutL_inj {a b : List UInt8} (h : cutL a = cutL b) : a = b := by rw [← paste_cut a, h, paste_cut]
theorem cmpT_eq (a b : List UInt8) : cmpT a b = 0 ↔ a = b := (ordP.eq _ _).trans ⟨cutL_inj, fun h => by rw [h]⟩

theorem cut_app : ∀ (a q : List UInt8), cutL (a ++ 47 :: q) = cutL a ++ cutL q
  | [], q => by simp [cutL]
  | c :: a, q => by
    have ih := cut_app a q
    obtain ⟨y, ys, e⟩ := List.exists_cons_of_ne_nil (cutL_ne a)
    rw [List.cons_append, cutL, cutL, ih, e]
    split <;> rfl
theorem paste_app : ∀ (A R : List (List UInt8)), A ≠ [] → R ≠ [] → pasteL (A ++ R) = pasteL A ++ 47 :: pasteL R
  | [], _, h, _ => (h rfl).elim
  | [x], R, _, h => by obtain ⟨y, ys, rfl⟩ := List.exists_cons_of_ne_nil h; rfl
  | x :: y :: A, R, _, h => by
    have ih := paste_app (y :: A) R (by simp) h
    rw [List.cons_append, List.cons_append, pasteL, pasteL, ← List.cons_append, ih]
    simp
/-- is it under another one, by its bytes? -/
def preB (p top : List UInt8) : Bool := (top ++ [47]).isPrefixOf p
theorem preB_iff (p top : List UInt8) : preB p top = true ↔ ∃ T, T ≠ [] ∧ cutL p = cutL top ++ T := by
  unfold preB
  rw [List.isPrefixOf_iff_prefix]
  constructor
  · rintro ⟨q, rfl⟩
    refine ⟨cutL q, cutL_ne q, ?_⟩
    rw [List.append_assoc]
    exact cut_app top q
  · rintro ⟨T, hT, h⟩
    refine ⟨pasteL T, ?_⟩
    rw [← paste_cut p, h, paste_app _ _ (cutL_ne top) hT, paste_cut, List.append_assoc]
    rfl
/-- is it under another one? -/
def underB (p top : List UInt8) : Bool := goodB p && goodB top && preB p top
theorem all_pre {A T : List (List UInt8)} (h : (A ++ T).all partB = true) : A.all partB = true := by
  rw [List.all_append] at h
  simp only [Bool.and_eq_true] at h
  exact h.1
/-- a path's beginnings are paths -/
theorem good_pre {p top : List UInt8} (hp : goodB p = true) (h : preB p top = true) : goodB top = true := by
  obtain ⟨T, hT, e⟩ := (preB_iff p top).1 h
  have hl : top.length ≤ p.length := by
    unfold preB at h
    have := List.IsPrefix.length_le (List.isPrefixOf_iff_prefix.1 h)
    simp at this
    omega
  unfold goodB at *
  rw [e] at hp
  simp only [Bool.and_eq_true, decide_eq_true_eq] at hp ⊢
  refine ⟨⟨by omega, all_pre hp.1.2⟩, ?_⟩
  have := hp.2
  rw [List.length_append] at this
  omega
/-- the order's law on what is under a path -/
theorem under_order {a b c : List UInt8} (h : underB c a = true) : cmpT a c = -1 ∧ (cmpT a b < 0 → cmpT b c < 0 → goodB b = true → underB b a = true) := by
  unfold underB at h
  simp only [Bool.and_eq_true] at h
  obtain ⟨⟨_, ha⟩, hp⟩ := h
  obtain ⟨T, hT, e⟩ := (preB_iff c a).1 hp
  refine ⟨by unfold cmpT; rw [e]; exact cmpP_app _ hT, fun h1 h2 hb => ?_⟩
  unfold cmpT at h1 h2
  rw [e] at h2
  obtain ⟨U, hU, e2⟩ := cmpP_mid _ _ _ h1 h2
  unfold underB
  rw [hb, ha, (preB_iff b a).2 ⟨U, hU, e2⟩]
  rfl
end Go.Proofs.YtdnljmncdbcgeaaGreat

/- Rows of what stands at paths, in the paths' order: plain. No program. -/
namespace Go.Proofs.YtdnljmncdbcgeaaGreat

theorem ordT : Ord3 cmpT where
  rng _ _ := ordP.rng _ _
  flip _ _ := ordP.flip _ _
  eq := cmpT_eq
  trans _ _ _ h k := ordP.trans _ _ _ h k
theorem cmpT_self (a : List UInt8) : cmpT a a = 0 := (cmpT_eq a a).2 rfl
/-- not behind -/
def leT (x y : List UInt8) : Bool := !decide (cmpT y x < 0)
theorem leT_trans (a b c : List UInt8) (h : leT a b = true) (k : leT b c = true) : leT a c = true := by
  simp only [leT, Bool.not_eq_true', decide_eq_false_iff_not] at *
  intro hc
  have h1 := ordT.flip a b
  have h2 := ordT.flip b c
  have h3 := ordT.flip a c
  by_cases e : cmpT a b = 0
  · have := (cmpT_eq a b).1 e
    subst this
    omega
  · by_cases e2 : cmpT b c = 0
    · have := (cmpT_eq b c).1 e2
      subst this
      omega
    · have := ordT.trans a b c (by omega) (by omega)
      omega
theorem leT_total (a b : List UInt8) : (leT a b || leT b a) = true := by
  simp only [leT, Bool.or_eq_true, Bool.not_eq_true', decide_eq_false_iff_not]
  have h1 := ordT.flip a b
  omega
theorem leT_anti (a b : List UInt8) (h : leT a b = true) (k : leT b a = true) : a = b := by
  simp only [leT, Bool.not_eq_true', decide_eq_false_iff_not] at *
  have h1 := ordT.flip a b
  exact (cmpT_eq a b).1 (by omega)

theorem nodup_len : ∀ (a b : List (List UInt8)), a.Nodup → a ⊆ b → a.length ≤ b.length
  | [], _, _, _ => Nat.zero_le _
  | x :: a, b, h, hs => by
    have hx : x ∈ b := hs (by simp)
    have hc := List.nodup_cons.1 h
    have h1 := nodup_len a (b.erase x) hc.2 (fun y hy => (List.mem_erase_of_ne (fun (e : y = x) => hc.1 (by rw [← e]; exact hy))).2 (hs (by simp [hy])))
    have h2 := List.length_pos_of_mem hx
    rw [List.length_erase_of_mem hx] at h1
    simp only [List.length_cons]
    omega
section
variable {α : Type}
/-- what stands at a path -/
def getR (L : List (List UInt8 × α)) (p : List UInt8) : Option α := (L.find? fun x => x.1 == p).map (·.2)
def withoutR (L : List (List UInt8 × α)) (p : List UInt8) : List (List UInt8 × α) := L.filter fun x => !(x.1 == p)
def insR (p : List UInt8) (v : α) : List (List UInt8 × α) → List (List UInt8 × α)
  | [] => [(p, v)]
  | x :: L => if 0 < cmpT x.1 p then (p, v) :: x :: L else x :: insR p v L
def putR (L : List (List UInt8 × α)) (p : List UInt8) (v : α) : List (List UInt8 × α) := insR p v (withoutR L p)
def keysR (L : List (List UInt8 × α)) : List (List UInt8) := L.map (·.1)
/-- in the paths' order, no path twice -/
def SortR (L : List (List UInt8 × α)) : Prop := L.Pairwise fun a b => cmpT a.1 b.1 < 0

theorem getR_nil (p : List UInt8) : getR ([] : List (List UInt8 × α)) p = none := rfl
theorem getR_cons (x : List UInt8 × α) (L : List (List UInt8 × α)) (p : List UInt8) : getR (x :: L) p = if x.1 = p then some x.2 else getR L p := by
  unfold getR
  rw [List.find?_cons]
  by_cases h : x.1 = p
  · simp [h]
  · rw [show (x.1 == p) = false by simpa using h, if_neg h]
theorem getR_none {L : List (List UInt8 × α)} {p : List UInt8} : getR L p = none ↔ ∀ x ∈ L, x.1 ≠ p := by
  induction L with
  | nil => simp [getR_nil]
  | cons y L ih =>
    rw [getR_cons]
    split
    · rename_i h; simp [h]
    · rename_i h; simp [h, ih]
theorem getR_mem {L : List (List UInt8 × α)} {p : List UInt8} {v : α} (h : getR L p = some v) : (p, v) ∈ L := by
  induction L with
  | nil => simp [getR_nil] at h
  | cons y L ih =>
    rw [getR_cons] at h
    split at h
    · rename_i e; cases h; subst e; simp
    · exact List.mem_cons_of_mem _ (ih h)
theorem getR_isSome {L : List (List UInt8 × α)} {p : List UInt8} : (getR L p).isSome = true ↔ p ∈ keysR L := by
  constructor
  · intro h
    obtain ⟨v, hv⟩ := Option.isSome_iff_exists.1 h
    exact List.mem_map.2 ⟨(p, v), getR_mem hv, rfl⟩
  · intro h
    obtain ⟨x, hx, rfl⟩ := List.mem_map.1 h
    rcases hg : getR L x.1 with _ | v
    · exact absurd rfl (getR_none.1 hg x hx)
    · rfl
theorem SortR.get {L : List (List UInt8 × α)} (h : SortR L) {x : List UInt8 × α} (hx : x ∈ L) : getR L x.1 = some x.2 := by
  induction L with
  | nil => cases hx
  | cons y L ih =>
    rw [getR_cons]
    have hc := List.pairwise_cons.1 h
    rcases List.mem_cons.1 hx with rfl | hx
    · rw [if_pos rfl]
    · rw [if_neg, ih hc.2 hx]
      intro e
      have := hc.1 x hx
      rw [e, cmpT_self] at this
      omega
theorem SortR.nodup {L : List (List UInt8 × α)} (h : SortR L) : (keysR L).Nodup := by
  unfold keysR
  rw [List.nodup_iff_pairwise_ne, List.pairwise_map]
  exact h.imp fun hab e => by rw [e, cmpT_self] at hab; omega
theorem SortR.keys {L : List (List UInt8 × α)} (h : SortR L) : (keysR L).Pairwise fun a b => leT a b = true := by
  unfold keysR
  rw [List.pairwise_map]
  refine h.imp fun {a b} hab => ?_
  simp only [leT, Bool.not_eq_true', decide_eq_false_iff_not]
  have := ordT.flip a.1 b.1
  omega
/-- the paths, collected in whatever order, sorted -/
theorem sort_keys {L : List (List UInt8 × α)} (h : SortR L) (f : List UInt8 → Bool) {ss : List (List UInt8)} (hn : ss.Nodup) (hm : ∀ k, k ∈ ss ↔ (k ∈ keysR L ∧ f k = true)) : ss.mergeSort leT = (keysR L).filter f := by
  have hp : ss.Perm ((keysR L).filter f) := (List.perm_ext_iff_of_nodup hn (h.nodup.filter _)).2 fun k => by rw [hm, List.mem_filter]
  refine List.Perm.eq_of_pairwise (le := fun a b => leT a b = true) (fun a b _ _ h1 h2 => leT_anti a b h1 h2) (List.pairwise_mergeSort leT_trans leT_total ss) (h.keys.filter _) ((List.mergeSort_perm ss leT).trans hp)
theorem SortR.ext {L M : List (List UInt8 × α)} (h : SortR L) (k : SortR M) (e : ∀ p, getR L p = getR M p) : L = M := by
  have hp : (keysR L).Perm (keysR M) := (List.perm_ext_iff_of_nodup h.nodup k.nodup).2 fun p => by rw [← getR_isSome, ← getR_isSome, e]
  have hk : keysR L = keysR M := List.Perm.eq_of_pairwise (le := fun a b => leT a b = true) (fun a b _ _ h1 h2 => leT_anti a b h1 h2) h.keys k.keys hp
  have hl : L.length = M.length := by simpa [keysR] using congrArg List.length hk
  refine List.ext_getElem hl fun i h1 h2 => ?_
  have e1 : (L[i]).1 = (M[i]).1 := by
    have := congrArg (fun l => l[i]?) hk
    simpa [keysR, List.getElem?_map, List.getElem?_eq_getElem h1, List.getElem?_eq_getElem h2] using this
  have g1 := h.get (List.getElem_mem h1)
  have g2 := k.get (List.getElem_mem h2)
  rw [e, e1, g2] at g1
  exact Prod.ext e1 (by simpa using g1.symm)

theorem getR_without (L : List (List UInt8 × α)) (p k : List UInt8) : getR (withoutR L p) k = if k = p then none else getR L k := by
  induction L with
  | nil => simp [withoutR, getR_nil]
  | cons x L ih =>
    unfold withoutR at ih ⊢
    rw [List.filter_cons]
    by_cases h : x.1 = p
    · rw [if_neg (by simp [h]), ih, getR_cons]
      by_cases hk : k = p
      · rw [if_pos hk, if_pos hk]
      · rw [if_neg hk, if_neg hk, if_neg (by rw [h]; exact fun e => hk e.symm)]
    · rw [if_pos (by simp [h]), getR_cons, getR_cons, ih]
      by_cases hk : k = p
      · rw [if_pos hk, if_pos hk, if_neg (by rw [hk]; exact h)]
      · rw [if_neg hk, if_neg hk]
theorem SortR.without {L : List (List UInt8 × α)} (h : SortR L) (p : List UInt8) : SortR (withoutR L p) := List.Pairwise.filter _ h
theorem without_ne (L : List (List UInt8 × α)) (p : List UInt8) : ∀ x ∈ withoutR L p, x.1 ≠ p := by
  intro x hx
  have := (List.mem_filter.1 hx).2
  simpa using this
theorem mem_ins {p : List UInt8} {v : α} {L : List (List UInt8 × α)} {x : List UInt8 × α} : x ∈ insR p v L ↔ x = (p, v) ∨ x ∈ L := by
  induction L with
  | nil => simp [insR]
  | cons y L ih =>
    unfold insR
    split
    · simp
    · simp only [List.mem_cons, ih]
      exact ⟨fun h => by rcases h with h | h | h <;> simp [h], fun h => by rcases h with h | h | h <;> simp [h]⟩
theorem SortR.ins {p : List UInt8} {v : α} {L : List (List UInt8 × α)} (h : SortR L) (hn : ∀ x ∈ L, x.1 ≠ p) : SortR (insR p v L) := by
  induction L with
  | nil => simp [insR, SortR]
  | cons y L ih =>
    have hc := List.pairwise_cons.1 h
    have hf := ordT.flip y.1 p
    have hne : cmpT y.1 p ≠ 0 := fun e => hn y (by simp) ((cmpT_eq _ _).1 e)
    unfold insR
    split
    · rename_i h0
      refine List.pairwise_cons.2 ⟨fun x hx => ?_, h⟩
      rcases List.mem_cons.1 hx with rfl | hx
      · show cmpT p x.1 < 0
        omega
      · exact ordT.trans p y.1 x.1 (by omega) (hc.1 x hx)
    · rename_i h0
      refine List.pairwise_cons.2 ⟨fun x hx => ?_, ih hc.2 (fun x hx => hn x (by simp [hx]))⟩
      rcases mem_ins.1 hx with rfl | hx
      · show cmpT y.1 p < 0
        omega
      · exact hc.1 x hx
theorem getR_ins {p k : List UInt8} {v : α} {L : List (List UInt8 × α)} (hn : ∀ x ∈ L, x.1 ≠ p) : getR (insR p v L) k = if k = p then some v else getR L k := by
  induction L with
  | nil =>
    rw [insR, getR_cons]
    by_cases h : k = p
    · rw [if_pos h, if_pos h.symm]
    · rw [if_neg h, if_neg (fun e => h e.symm)]
  | cons y L ih =>
    unfold insR
    split
    · rw [getR_cons]
      by_cases h : k = p
      · rw [if_pos h, if_pos h.symm]
      · rw [if_neg h, if_neg (fun e => h e.symm)]
    · rw [getR_cons, getR_cons, ih (fun x hx => hn x (by simp [hx]))]
      by_cases h : k = p
      · rw [if_pos h, if_pos h, if_neg (by rw [h]; exact hn y (by simp))]
      · rw [if_neg h, if_neg h]
theorem getR_put (L : List (List UInt8 × α)) (p k : List UInt8) (v : α) : getR (putR L p v) k = if k = p then some v else getR L k := by
  unfold putR
  rw [getR_ins (without_ne L p), getR_without]
  by_cases h : k = p
  · rw [if_pos h, if_pos h]
  · rw [if_neg h, if_neg h, if_neg h]
theorem SortR.put {L : List (List UInt8 × α)} (h : SortR L) (p : List UInt8) (v : α) : SortR (putR L p v) := (h.without p).ins (without_ne L p)
theorem sortR_nil : SortR ([] : List (List UInt8 × α)) := List.Pairwise.nil
theorem ins_len (p : List UInt8) (v : α) : ∀ (L : List (List UInt8 × α)), (insR p v L).length = L.length + 1
  | [] => rfl
  | y :: L => by
    unfold insR
    split
    · rfl
    · simp [ins_len p v L]
theorem without_self {L : List (List UInt8 × α)} {p : List UInt8} (h : getR L p = none) : withoutR L p = L := by
  unfold withoutR
  rw [List.filter_eq_self]
  intro x hx
  have := getR_none.1 h x hx
  simp [this]
theorem without_len_le (L : List (List UInt8 × α)) (p : List UInt8) : (withoutR L p).length ≤ L.length := List.length_filter_le _ _
theorem SortR.without_len {L : List (List UInt8 × α)} (h : SortR L) {p : List UInt8} {v : α} (hg : getR L p = some v) : (withoutR L p).length + 1 = L.length := by
  have e : L = insR p v (withoutR L p) := h.ext ((h.without p).ins (without_ne L p)) fun k => by
    rw [getR_ins (without_ne L p), getR_without]
    by_cases hk : k = p
    · rw [if_pos hk, hk, hg]
    · rw [if_neg hk, if_neg hk]
  have := ins_len p v (withoutR L p)
  rw [← e] at this
  omega
theorem keys_len (L : List (List UInt8 × α)) : (keysR L).length = L.length := by simp [keysR]
/-- what is told of each is told of each -/
theorem getR_map {β : Type} (f : α → β) (L : List (List UInt8 × α)) (p : List UInt8) : getR (L.map fun x => (x.1, f x.2)) p = (getR L p).map f := by
  induction L with
  | nil => rfl
  | cons x L ih =>
    rw [List.map_cons, getR_cons, getR_cons, ih]
    by_cases h : x.1 = p
    · rw [if_pos h, if_pos h]; rfl
    · rw [if_neg h, if_neg h]
theorem without_map {β : Type} (f : α → β) (L : List (List UInt8 × α)) (p : List UInt8) : withoutR (L.map fun x => (x.1, f x.2)) p = (withoutR L p).map fun x => (x.1, f x.2) := by
  unfold withoutR
  rw [List.filter_map]
  rfl
theorem ins_map {β : Type} (f : α → β) (p : List UInt8) (v : α) : ∀ (L : List (List UInt8 × α)), insR p (f v) (L.map fun x => (x.1, f x.2)) = (insR p v L).map fun x => (x.1, f x.2)
  | [] => rfl
  | x :: L => by
    rw [List.map_cons, insR, insR]
    split
    · rfl
    · rw [ins_map f p v L]; rfl
theorem put_map {β : Type} (f : α → β) (L : List (List UInt8 × α)) (p : List UInt8) (v : α) : putR (L.map fun x => (x.1, f x.2)) p (f v) = (putR L p v).map fun x => (x.1, f x.2) := by
  unfold putR
  rw [without_map, ins_map]
theorem keys_map {β : Type} (f : α → β) (L : List (List UInt8 × α)) : keysR (L.map fun x => (x.1, f x.2)) = keysR L := by simp [keysR]
theorem sort_map {β : Type} (f : α → β) {L : List (List UInt8 × α)} : SortR (L.map fun x => (x.1, f x.2)) ↔ SortR L := by
  unfold SortR
  rw [List.pairwise_map]
end
end Go.Proofs.YtdnljmncdbcgeaaGreat

/- Maps keyed by texts, as rows in the paths' order: whatever the elements are. No program. -/
namespace Go.Proofs.YtdnljmncdbcgeaaGreat
open Go.Maps (Keyed string_keyed)
open Go.WideShapes Go.MapKept Go.ChangeMaps

/-- an element as it is -/
def heldR : Value → Option (DataW Value × List MemPlace) := fun v => some (.held v, [])
/-- what a map's datum tells at each text is what the row tells -/
def Tells (D : DataW Value) (L : List (List UInt8 × Value)) : Prop := ∀ p z, D.atKey (.string p) z = ((getR L p).map DataW.held).getD z
theorem Tells.has {D : DataW Value} {L : List (List UInt8 × Value)} (h : Tells D L) (p : List UInt8) : Go.Maps.has D (.string p) = (getR L p).isSome := by
  rcases hg : getR L p with _ | v
  · exact Go.Maps.has_false_of_atKey fun z => by rw [h, hg]; rfl
  · exact Go.Maps.has_true_of_atKey (y := .held v) fun z => by rw [h, hg]; rfl
theorem Tells.nil : Tells (.map []) [] := fun _ _ => rfl
theorem Tells.put {D : DataW Value} {L : List (List UInt8 × Value)} (h : Tells D L) (hD : Go.Maps.IsMap D) (p : List UInt8) (v : Value) : Tells (D.put (.string p) (.held v)) (putR L p v) := fun q z => by
  rw [getR_put]
  by_cases hq : q = p
  · subst hq
    rw [if_pos rfl, Go.Maps.atKey_put_same hD (k := .string q) (show WideAt.IsKeyLit (.string q) from trivial)]
    rfl
  · rw [if_neg hq, Go.Maps.atKey_put_other (by simpa using hq), h]
theorem Tells.del {D : DataW Value} {L : List (List UInt8 × Value)} (h : Tells D L) (p : List UInt8) : Tells (D.del (.string p)) (withoutR L p) := fun q z => by
  rw [getR_without]
  by_cases hq : q = p
  · subst hq
    rw [if_pos rfl, Go.Maps.atKey_del_same]
    rfl
  · rw [if_neg hq, Go.Maps.atKey_del_other (by simpa using hq), h]

section
variable {P : Program} {K : TypeId} {w w' : World} {b : Nat} {L : List (List UInt8 × Value)}
/-- block b is a map of type K's keys that has what the row has -/
structure MapAt (w : World) (P : Program) (K : TypeId) (b : Nat) (L : List (List UInt8 × Value)) : Prop where
  sort : SortR L
  own : ∃ D, w.ownsMap P K heldR b L.length D ∧ Tells D L
  len : ∀ x ∈ L, x.1.length ≤ maxLen

theorem own_shrink {H : Type} {R : Value → Option (DataW H × List MemPlace)} {n : Nat} {D : DataW H} (h : w.ownsMap P K R b n D) : w.ownsMap P K R b (Go.Maps.size D) D := by
  obtain ⟨es, clock, hb, F, _, rfl⟩ := h
  exact ⟨es, clock, hb, F, by rw [Go.Maps.size_eq, length_sorted]; simp, rfl⟩
/-- what the datum has are the row's paths -/
theorem own_keys {n : Nat} {D : DataW Value} (h : w.ownsMap P K heldR b n D) (hk : P.underlying K = some .string) (ht : Tells D L) (hs : SortR L) : (keysR L).Perm (strKeys D) ∧ Go.Maps.size D = L.length := by
  have law : Keyed P K := string_keyed hk
  obtain ⟨es, hD, hpw, _⟩ := h.entries law
  obtain ⟨es', hD', hko⟩ := h.keysOf
  obtain rfl : es = es' := by rw [hD] at hD'; simpa using hD'
  have hp : (keysR L).Perm (strKeys D) := by
    rw [hD]
    refine perm_strKeys hpw (fun p hp => by obtain ⟨v, hv⟩ := hko p hp; obtain ⟨x, _, hx, _⟩ := Maps.keyOf_str hk hv; exact ⟨x, hx⟩) hs.nodup fun x => ?_
    rw [← hD, ht.has, getR_isSome]
  refine ⟨hp, ?_⟩
  have := hp.length_eq
  rw [keys_len] at this
  rw [this, hD]
  simp [Go.Maps.size, strKeys]
theorem MapAt.of {n : Nat} {D : DataW Value} (h : w.ownsMap P K heldR b n D) (hk : P.underlying K = some .string) (ht : Tells D L) (hs : SortR L) : MapAt w P K b L := by
  obtain ⟨hp, hz⟩ := own_keys h hk ht hs
  refine ⟨hs, ⟨D, by rw [← hz]; exact own_shrink h, ht⟩, fun x hx => strKeys_le h hk _ (hp.mem_iff.1 (List.mem_map.2 ⟨x, hx, rfl⟩))⟩
theorem MapAt.lt (h : MapAt w P K b L) : b < w.heap.size := by
  obtain ⟨D, h1, _⟩ := h.own
  exact h1.lt
theorem MapAt.kept {row : Option Nat} (h : MapAt w P K b L) (hg : w.grownBy w' row) (hne : some b ≠ row) : MapAt w' P K b L := by
  obtain ⟨D, h1, h2⟩ := h.own
  exact ⟨h.sort, ⟨D, h1.kept hg hne, h2⟩, h.len⟩
theorem MapAt.block (h : MapAt w P K b L) (hb : w'.heap[b]? = w.heap[b]?) : MapAt w' P K b L := by
  obtain ⟨D, ⟨es, clock, h1, r⟩, h2⟩ := h.own
  exact ⟨h.sort, ⟨D, ⟨es, clock, hb.trans h1, r⟩, h2⟩, h.len⟩
/-- a new one -/
theorem MapAt.made (w : World) (P : Program) (K : TypeId) : MapAt (w.alloc (.map #[] 0)) P K w.heap.size [] := ⟨sortR_nil, ⟨_, World.ownsMap_made w P K heldR, Tells.nil⟩, by simp⟩
theorem MapAt.not_cells (h : MapAt w P K b L) {cs : Array Value} {t : TypeId} {f : Nat × Nat} : w.heap[b]? ≠ some (.cells cs t f) := by
  obtain ⟨D, ⟨es, clock, h1, _⟩, _⟩ := h.own
  rw [h1]
  simp

/-- m[k] -/
theorem MapAt.look (h : MapAt w P K b L) (hk : P.underlying K = some .string) {t e : TypeId} (ht : P.underlying t = some (.map K e)) {z : Value} (hz : (zeroValue e).run P w = .ok z w) (p : List UInt8) (hp : p.length ≤ maxLen) :
    (Instr.lookup t (.map (some b)) (.string ⟨⟨p⟩⟩) false).run P w = .ok ((getR L p).getD z) w := by
  obtain ⟨D, h1, h2⟩ := h.own
  obtain ⟨v, ps, hrun, hv⟩ := h1.lookup (string_keyed hk) ht hz (zd := .held z) (zp := []) rfl (Go.WideMaps.keyOf_string_mk hk (s := ⟨⟨p⟩⟩) hp)
  rw [hrun]
  have : DataW.held v = D.atKey (.string p) (.held z) := by simpa [heldR] using congrArg (fun o => o.map Prod.fst) hv
  rw [h2] at this
  congr 1
  rcases hg : getR L p with _ | u
  · rw [hg] at this; simpa using this
  · rw [hg] at this; simpa using this
theorem MapAt.look_ok (h : MapAt w P K b L) (hk : P.underlying K = some .string) {t e : TypeId} (ht : P.underlying t = some (.map K e)) {z : Value} (hz : (zeroValue e).run P w = .ok z w) (p : List UInt8) (hp : p.length ≤ maxLen) :
    (Instr.lookup t (.map (some b)) (.string ⟨⟨p⟩⟩) true).run P w = .ok (.tuple #[(getR L p).getD z, .bool (getR L p).isSome]) w := by
  obtain ⟨D, h1, h2⟩ := h.own
  obtain ⟨v, ps, hrun, hv⟩ := h1.look_ok (string_keyed hk) ht hz (zd := .held z) (zp := []) rfl (Go.WideMaps.keyOf_string_mk hk (s := ⟨⟨p⟩⟩) hp)
  rw [h2.has p] at hrun
  rw [hrun]
  have : DataW.held v = D.atKey (.string p) (.held z) := by simpa [heldR] using congrArg (fun o => o.map Prod.fst) hv
  rw [h2] at this
  have e : v = (getR L p).getD z := by
    rcases hg : getR L p with _ | u
    · rw [hg] at this; simpa using this
    · rw [hg] at this; simpa using this
  rw [e]
/-- m[k] = v -/
theorem MapAt.store (h : MapAt w P K b L) (hk : P.underlying K = some .string) {t e : TypeId} (ht : P.underlying t = some (.map K e)) (p : List UInt8) (hp : p.length ≤ maxLen) (v : Value) (hn : L.length < maxLen) :
    ∃ w', (Instr.mapUpdate t (.map (some b)) (.string ⟨⟨p⟩⟩) v).run P w = .ok () w' ∧ MapAt w' P K b (putR L p v) ∧ w.grownBy w' (some b) ∧ w'.heap.size = w.heap.size := by
  obtain ⟨D, h1, h2⟩ := h.own
  obtain ⟨w', hrun, r1, r2⟩ := h1.store (string_keyed hk) ht hn (Go.WideMaps.keyOf_string_mk hk (s := ⟨⟨p⟩⟩) hp) (val := v) (d := .held v) (ps := []) rfl
  refine ⟨w', hrun, MapAt.of r1 hk (h2.put h1.isMap p v) (h.sort.put p v), r2.grown, ?_⟩
  obtain ⟨_, _, es', clock', _, rfl⟩ := r2
  simp [setBlock]
/-- delete(m, k) -/
theorem MapAt.drop (h : MapAt w P K b L) (hk : P.underlying K = some .string) {t e : TypeId} (ht : P.underlying t = some (.map K e)) (p : List UInt8) (hp : p.length ≤ maxLen) (ty : TypeId) :
    ∃ w', (Builtin.delete_ #[t, K] ty #[.map (some b), .string ⟨⟨p⟩⟩]).run P w = .ok (.tuple #[]) w' ∧ MapAt w' P K b (withoutR L p) ∧ w.grownBy w' (some b) ∧ w'.heap.size = w.heap.size := by
  obtain ⟨D, h1, h2⟩ := h.own
  obtain ⟨w', hrun, r1, r2⟩ := h1.drop (string_keyed hk) ht (Go.WideMaps.keyOf_string_mk hk (s := ⟨⟨p⟩⟩) hp) ty
  refine ⟨w', hrun, MapAt.of r1 hk (h2.del p) (h.sort.without p), r2.grown, ?_⟩
  obtain ⟨_, _, es', clock', _, rfl⟩ := r2
  simp [setBlock]
/-- len(m) -/
theorem MapAt.count (h : MapAt w P K b L) (hk : P.underlying K = some .string) {t e : TypeId} (ht : P.underlying t = some (.map K e)) (ty : TypeId) : (Builtin.len_ #[t] ty #[.map (some b)]).run P w = .ok (.int .i64 L.length) w := by
  obtain ⟨D, h1, h2⟩ := h.own
  rw [h1.len ht ty, (own_keys h1 hk h2 h.sort).2]

/-- 'for k, v := range m' under way: what has come, in the order in which it came; nothing of the row comes twice -/
structure Rng (w : World) (P : Program) (K : TypeId) (b r : Nat) (L : List (List UInt8 × Value)) (seen : List (List UInt8)) (cnt : Nat) : Prop where
  sort : SortR L
  rng : ∃ D left, w.ranges P K heldR b r L.length D left cnt ∧ Tells D L ∧ Collected D left seen
  len : ∀ x ∈ L, x.1.length ≤ maxLen
theorem Rng.at_ {r cnt : Nat} {seen : List (List UInt8)} (h : Rng w P K b r L seen cnt) : MapAt w P K b L := by
  obtain ⟨D, left, h1, h2, _⟩ := h.rng
  exact ⟨h.sort, ⟨D, h1.owns, h2⟩, h.len⟩
theorem Rng.left_eq {r cnt : Nat} {seen : List (List UInt8)} (h : Rng w P K b r L seen cnt) : w.rangeLeft b r = cnt := by
  obtain ⟨D, left, h1, _⟩ := h.rng
  exact h1.left_eq
theorem Rng.lt {r cnt : Nat} {seen : List (List UInt8)} (h : Rng w P K b r L seen cnt) : r < w.heap.size := by
  obtain ⟨D, left, h1, _⟩ := h.rng
  exact h1.lt
theorem Rng.kept {r cnt : Nat} {seen : List (List UInt8)} {row : Option Nat} (h : Rng w P K b r L seen cnt) (hg : w.grownBy w' row) (hb : some b ≠ row) (hr : some r ≠ row) : Rng w' P K b r L seen cnt := by
  obtain ⟨D, left, h1, h2, h3⟩ := h.rng
  exact ⟨h.sort, ⟨D, left, h1.kept hg hb hr, h2, h3⟩, h.len⟩
theorem MapAt.range (h : MapAt w P K b L) (hk : P.underlying K = some .string) {t e : TypeId} (ht : P.underlying t = some (.map K e)) :
    ∃ w', (Instr.range t (.map (some b))).run P w = .ok (.pointer (some ⟨w.heap.size, 0, none⟩)) w' ∧ Rng w' P K b w.heap.size L [] L.length ∧ w.grownBy w' none ∧ w'.heap.size = w.heap.size + 1 := by
  obtain ⟨D, h1, h2⟩ := h.own
  obtain ⟨w', hrun, r1, r2, r3⟩ := h1.range (string_keyed hk) ht
  rw [(own_keys h1 hk h2 h.sort).2] at r1
  exact ⟨w', hrun, ⟨h.sort, ⟨D, _, r1, h2, Collected.start D⟩, h.len⟩, r2, r3⟩
/-- the step: nothing is left, and all has come; or something comes -/
theorem Rng.next {r cnt : Nat} {seen : List (List UInt8)} (h : Rng w P K b r L seen cnt) (hk : P.underlying K = some .string) (ty : TypeId) :
    ((Instr.next (.pointer (some ⟨r, 0, none⟩)) false ty).run P w = .ok (.tuple #[.bool false]) w ∧ cnt = 0 ∧ seen.Nodup ∧ ∀ k, k ∈ seen ↔ k ∈ keysR L) ∨
    ∃ (p : List UInt8) (v : Value) (w' : World) (cnt' : Nat), (p, v) ∈ L ∧ p ∉ seen ∧ (Instr.next (.pointer (some ⟨r, 0, none⟩)) false ty).run P w = .ok (.tuple #[.bool true, .string ⟨⟨p⟩⟩, v]) w' ∧ Rng w' P K b r L (seen ++ [p]) cnt' ∧ cnt' < cnt ∧ w.grownBy w' (some r) ∧ w'.heap.size = w.heap.size ∧
      (Instr.entry (.pointer (some ⟨r, 0, none⟩))).run P w' = .ok (.tuple #[.string ⟨⟨p⟩⟩, v]) w' := by
  obtain ⟨D, left, h1, h2, h3⟩ := h.rng
  rcases h1.next (string_keyed hk) ty with ⟨h0, hl, hrun⟩ | ⟨key, v, kl, y, w', cnt', hkey, hlk, hv, hat, hrun, hrg, hlt, hgr, hsz, hen⟩
  · refine .inl ⟨hrun, h0, h3.1, fun k => ?_⟩
    rw [h3.2 k, h2.has, getR_isSome, hl]
    simp
  · obtain ⟨p, rfl, rfl, hp⟩ := Maps.keyOf_str hk hkey
    obtain rfl : (DataW.held v, []) = y := by simpa [heldR] using hv
    have hg : getR L p = some v := by
      have := hat .nil
      rw [h2] at this
      rcases hq : getR L p with _ | u
      · rw [hq] at this; simp at this
      · rw [hq] at this; simpa using this
    refine .inr ⟨p, v, w', cnt', getR_mem hg, fun hx => ?_, hrun, ⟨h.sort, ⟨D, _, hrg, h2, h3.step hlk hat⟩, h.len⟩, hlt, hgr, hsz, hen⟩
    have := ((h3.2 p).1 hx).2
    rw [hlk] at this
    cases this
end
end Go.Proofs.YtdnljmncdbcgeaaGreat
