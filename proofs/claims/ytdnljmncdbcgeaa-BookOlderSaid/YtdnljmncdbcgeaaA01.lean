/- Texts and their parts, plain: what stands between strokes, what is a part, what is a path, how texts stand. No program. -/
import Derived.WalkKit
import Derived.Maps.RangeWalk
import Derived.Sort.KeysCollected
import Derived.Test.YtdnljmncdbcgeaaRows
import Derived.WalkSpells
import Derived.WalkLawsBesides
import Derived.ProofKit
import Derived.Lib.Hide
import Derived.Deep.QuietTactic
import Derived.BigQuiet
import Derived.Laws.BitsAllLaws
import Derived.SizedLaws
import Derived.Lib.SmallJoins
import Derived.Deep.Slices
import Derived.Deep.Fields
import Derived.Laws.OwnMore
import Derived.Maps.AppendAt
import Derived.Deep.AppendLies
import Derived.Deep.Draws
import Derived.RegionTactic
import Derived.OwnWalk

namespace Go.Proofs.Ytdnljmncdbcgeaa

/-- what stands between strokes -/
def cutL : List UInt8 → List (List UInt8)
  | [] => [[]]
  | c :: l => if c = 47 then [] :: cutL l else (c :: (cutL l).headD []) :: (cutL l).tail

theorem cutL_ne : ∀ l, cutL l ≠ []
  | [] => by simp [cutL]
  | c :: l => by unfold cutL; split <;> simp
theorem cutL_pos (l : List UInt8) : 0 < (cutL l).length := List.length_pos_iff.2 (cutL_ne l)
theorem cutL_none : ∀ {l : List UInt8}, (∀ c ∈ l, c ≠ 47) → cutL l = [l]
  | [], _ => rfl
  | c :: l, h => by
    rw [cutL, if_neg (h c (by simp)), cutL_none (fun x hx => h x (by simp [hx]))]
    rfl
theorem cutL_at : ∀ {i : Nat} {l : List UInt8}, (∀ c ∈ l.take i, c ≠ 47) → l[i]? = some 47 → cutL l = l.take i :: cutL (l.drop (i + 1))
  | _, [], _, h => by simp at h
  | 0, c :: l, _, h => by
    have : c = 47 := by simpa using h
    rw [cutL, if_pos this]
    rfl
  | i + 1, c :: l, h, h2 => by
    have ih := cutL_at (i := i) (l := l) (fun x hx => h x (by simp [hx])) (by simpa using h2)
    rw [cutL, if_neg (h c (by simp)), ih]
    rfl
/-- the last part and those ahead of it -/
theorem cutL_snoc : ∀ (l : List UInt8) (c : UInt8), cutL (l ++ [c]) = if c = 47 then cutL l ++ [[]] else (cutL l).dropLast ++ [(cutL l).getLastD [] ++ [c]]
  | [], c => by
    by_cases h : c = 47
    · simp [cutL, h]
    · simp [cutL, h]
  | x :: l, c => by
    have ih := cutL_snoc l c
    rw [List.cons_append, cutL, ih]
    have hn := cutL_ne l
    obtain ⟨y, ys, e⟩ := List.exists_cons_of_ne_nil hn
    by_cases h : c = 47
    · rw [if_pos h, if_pos h]
      by_cases hx : x = 47
      · rw [if_pos hx]; conv => rhs; rw [cutL, if_pos hx]
        rfl
      · rw [if_neg hx]; conv => rhs; rw [cutL, if_neg hx]
        rw [e]; rfl
    · rw [if_neg h, if_neg h]
      by_cases hx : x = 47
      · rw [if_pos hx]; conv => rhs; rw [cutL, if_pos hx]
        rw [e]
        rfl
      · rw [if_neg hx]; conv => rhs; rw [cutL, if_neg hx]
        rw [e]
        cases ys with
        | nil => rfl
        | cons z zs => rfl
/-- parts, with strokes between -/
def pasteL : List (List UInt8) → List UInt8
  | [] => []
  | [x] => x
  | x :: y :: l => x ++ 47 :: pasteL (y :: l)
theorem paste_cut : ∀ l, pasteL (cutL l) = l
  | [] => rfl
  | c :: l => by
    have ih := paste_cut l
    obtain ⟨y, ys, e⟩ := List.exists_cons_of_ne_nil (cutL_ne l)
    rw [cutL]
    rw [e] at ih ⊢
    split
    · rename_i h; subst h; rw [pasteL, ih]; rfl
    · cases ys with
      | nil => rw [List.headD_cons, List.tail_cons, pasteL]; rw [pasteL] at ih; rw [ih]
      | cons z zs => rw [List.headD_cons, List.tail_cons, pasteL, List.cons_append]; rw [pasteL] at ih; rw [ih]
theorem cut_no : ∀ l, ∀ x ∈ cutL l, ∀ c ∈ x, c ≠ 47
  | [], x, hx => by simp [cutL] at hx; subst hx; simp
  | c :: l, x, hx => by
    have ih := cut_no l
    obtain ⟨y, ys, e⟩ := List.exists_cons_of_ne_nil (cutL_ne l)
    rw [cutL] at hx
    rw [e] at ih hx
    split at hx
    · rcases List.mem_cons.1 hx with rfl | hx
      · simp
      · exact ih x hx
    · rename_i h
      rw [List.headD_cons, List.tail_cons] at hx
      rcases List.mem_cons.1 hx with rfl | hx
      · intro d hd
        rcases List.mem_cons.1 hd with rfl | hd
        · exact h
        · exact ih y (by simp) d hd
      · exact ih x (by simp [hx])
theorem cut_paste : ∀ (l : List (List UInt8)), l ≠ [] → (∀ x ∈ l, ∀ c ∈ x, c ≠ 47) → cutL (pasteL l) = l
  | [], h, _ => (h rfl).elim
  | [x], _, h => by rw [pasteL]; exact cutL_none (h x (by simp))
  | x :: y :: l, _, h => by
    rw [pasteL]
    have e := cutL_at (i := x.length) (l := x ++ 47 :: pasteL (y :: l)) (by rw [List.take_left']; exact h x (by simp); rfl) (by simp)
    rw [e, List.take_left' rfl, show List.drop (x.length + 1) (x ++ 47 :: pasteL (y :: l)) = pasteL (y :: l) by rw [← List.drop_drop, List.drop_left' rfl]; rfl]
    rw [cut_paste (y :: l) (by simp) (fun z hz => h z (by simp [hz]))]
/-- is it a part? -/
def partB (s : List UInt8) : Bool := !s.isEmpty && decide (s.length ≤ 24) && !(s == [46]) && !(s == [46, 46]) && !(s.contains 0)
/-- is it a path? -/
def goodB (p : List UInt8) : Bool := decide (p.length ≤ 96) && (cutL p).all partB && decide ((cutL p).length ≤ 6)
end Go.Proofs.Ytdnljmncdbcgeaa

/- Texts and their parts, plain: how they stand, what is under what, where one stands once another was moved. No program. -/
namespace Go.Proofs.Ytdnljmncdbcgeaa

/-- a way to compare -/
structure Ord3 {α : Type} (c : α → α → Int) : Prop where
  rng : ∀ a b, c a b = -1 ∨ c a b = 0 ∨ c a b = 1
  flip : ∀ a b, c b a = - c a b
  eq : ∀ a b, c a b = 0 ↔ a = b
  trans : ∀ a b d, c a b < 0 → c b d < 0 → c a d < 0
/-- one behind the other; what ends first stands first -/
def cmpL {α : Type} (c : α → α → Int) : List α → List α → Int
  | [], [] => 0
  | [], _ :: _ => -1
  | _ :: _, [] => 1
  | x :: l, y :: m => if c x y = 0 then cmpL c l m else c x y
theorem Ord3.list {α : Type} {c : α → α → Int} (h : Ord3 c) : Ord3 (cmpL c) where
  rng := by
    intro a
    induction a with
    | nil => intro b; cases b <;> simp [cmpL]
    | cons x l ih =>
      intro b
      cases b with
      | nil => simp [cmpL]
      | cons y m =>
        rw [cmpL]
        split
        · exact ih m
        · exact h.rng x y
  flip := by
    intro a
    induction a with
    | nil => intro b; cases b <;> simp [cmpL]
    | cons x l ih =>
      intro b
      cases b with
      | nil => simp [cmpL]
      | cons y m =>
        rw [cmpL, cmpL, h.flip x y]
        by_cases h0 : c x y = 0
        · rw [if_pos (by omega), if_pos h0]; exact ih m
        · rw [if_neg (by omega), if_neg h0]
  eq := by
    intro a
    induction a with
    | nil => intro b; cases b <;> simp [cmpL]
    | cons x l ih =>
      intro b
      cases b with
      | nil => simp [cmpL]
      | cons y m =>
        rw [cmpL]
        by_cases h0 : c x y = 0
        · rw [if_pos h0, ih m, (h.eq x y).1 h0]; simp
        · rw [if_neg h0]
          constructor
          · intro h1; exact (h0 h1).elim
          · intro h1; injection h1 with h1 _; exact (h0 ((h.eq x y).2 h1)).elim
  trans := by
    intro a
    induction a with
    | nil => intro b d h1 h2; cases b <;> cases d <;> simp [cmpL] at h1 h2 ⊢
    | cons x l ih =>
      intro b d h1 h2
      cases b with
      | nil => simp [cmpL] at h1
      | cons y m =>
        cases d with
        | nil => simp [cmpL] at h2
        | cons z k =>
          rw [cmpL] at h1 h2 ⊢
          by_cases h0 : c x y = 0
          · rw [if_pos h0] at h1
            obtain rfl := (h.eq x y).1 h0
            by_cases h3 : c x z = 0
            · rw [if_pos h3] at h2 ⊢
              exact ih m k h1 h2
            · rw [if_neg h3] at h2 ⊢
              exact h2
          · rw [if_neg h0] at h1
            by_cases h3 : c y z = 0
            · obtain rfl := (h.eq y z).1 h3
              rw [if_neg h0]
              exact h1
            · rw [if_neg h3] at h2
              have h4 := h.trans x y z h1 h2
              rw [if_neg (by omega)]
              exact h4
/-- how two bytes stand -/
def cmp1 (a b : UInt8) : Int := if a.toNat < b.toNat then -1 else if b.toNat < a.toNat then 1 else 0
theorem ord1 : Ord3 cmp1 where
  rng a b := by unfold cmp1; split; · simp
                split <;> simp
  flip a b := by unfold cmp1; split <;> split <;> first | omega | rfl | (split <;> omega)
  eq a b := by
    unfold cmp1
    constructor
    · intro h
      split at h
      · omega
      · split at h
        · omega
        · exact UInt8.toNat_inj.1 (by omega)
    · rintro rfl; simp
  trans a b d h1 h2 := by
    unfold cmp1 at *
    split at h1
    · split at h2
      · rw [if_pos (by omega)]; omega
      · split at h2 <;> omega
    · split at h1 <;> omega
/-- how two parts stand -/
def cmpB : List UInt8 → List UInt8 → Int := cmpL cmp1
/-- how two rows of parts stand -/
def cmpP : List (List UInt8) → List (List UInt8) → Int := cmpL cmpB
theorem ordB : Ord3 cmpB := ord1.list
theorem ordP : Ord3 cmpP := ordB.list
theorem cmpB_self (x : List UInt8) : cmpB x x = 0 := (ordB.eq x x).2 rfl
/-- a row stands ahead of a longer one -/
theorem cmpP_app : ∀ (A : List (List UInt8)) {R : List (List UInt8)}, R ≠ [] → cmpP A (A ++ R) = -1
  | [], R, h => by obtain ⟨y, ys, rfl⟩ := List.exists_cons_of_ne_nil h; rfl
  | x :: A, R, h => by
    unfold cmpP
    rw [List.cons_append, cmpL, if_pos (cmpB_self x)]
    exact cmpP_app A h
/-- what stands between a row and a longer one is longer, too -/
theorem cmpP_mid : ∀ (A B R : List (List UInt8)), cmpP A B < 0 → cmpP B (A ++ R) < 0 → ∃ T, T ≠ [] ∧ B = A ++ T
  | [], B, R, h, _ => by
    cases B with
    | nil => simp [cmpP, cmpL] at h
    | cons y B => exact ⟨y :: B, by simp, rfl⟩
  | x :: A, B, R, h, h2 => by
    cases B with
    | nil => simp [cmpP, cmpL] at h
    | cons y B =>
      unfold cmpP at h h2
      rw [List.cons_append] at h2
      rw [cmpL] at h h2
      by_cases h0 : cmpB x y = 0
      · obtain rfl := (ordB.eq x y).1 h0
        rw [if_pos h0] at h h2
        obtain ⟨T, hT, rfl⟩ := cmpP_mid A B R h h2
        exact ⟨T, hT, rfl⟩
      · have h3 := ordB.flip x y
        rw [if_neg h0] at h
        rw [if_neg (by omega)] at h2
        omega
/-- how two texts stand -/
def cmpT (a b : List UInt8) : Int := cmpP (cutL a) (cutL b)
theorem cutL_inj {a b : List UInt8} (h : cutL a = cutL b) : a = b := by rw [← paste_cut a, h, paste_cut]
theorem cmpT_eq (a b : List UInt8) : cmpT a b = 0 ↔ a = b := (ordP.eq _ _).trans ⟨cutL_inj, fun h => by rw [h]⟩

theorem cut_app : ∀ (a q : List UInt8), cutL (a ++ 47 :: q) = cutL a ++ cutL q
  | [], q => by simp [cutL]
  | c :: a, q => by
    have ih := cut_app a q
    obtain ⟨y, ys, e⟩ := List.exists_cons_of_ne_nil (cutL_ne a)
    rw [List.cons_append, cutL, cutL, ih, e]
    split <;> rfl
theorem paste_app : ∀ (A R : List (List UInt8)), A ≠ [] → R ≠ [] → pasteL (A ++ R) = pasteL A ++ 47 :: pasteL R
  | [], _, h, _ => (h rfl).elim
  | [x], R, _, h => by obtain ⟨y, ys, rfl⟩ := List.exists_cons_of_ne_nil h; rfl
  | x :: y :: A, R, _, h => by
    have ih := paste_app (y :: A) R (by simp) h
    rw [List.cons_append, List.cons_append, pasteL, pasteL, ← List.cons_append, ih]
    simp
/-- is it under another one, by its bytes? -/
def preB (p top : List UInt8) : Bool := (top ++ [47]).isPrefixOf p
theorem preB_iff (p top : List UInt8) : preB p top = true ↔ ∃ T, T ≠ [] ∧ cutL p = cutL top ++ T := by
  unfold preB
  rw [List.isPrefixOf_iff_prefix]
  constructor
  · rintro ⟨q, rfl⟩
    refine ⟨cutL q, cutL_ne q, ?_⟩
    rw [List.append_assoc]
    exact cut_app top q
  · rintro ⟨T, hT, h⟩
    refine ⟨pasteL T, ?_⟩
    rw [← paste_cut p, h, paste_app _ _ (cutL_ne top) hT, paste_cut, List.append_assoc]
    rfl
/-- is it under another one? -/
def underB (p top : List UInt8) : Bool := goodB p && goodB top && preB p top
theorem all_pre {A T : List (List UInt8)} (h : (A ++ T).all partB = true) : A.all partB = true := by
  rw [List.all_append] at h
  simp only [Bool.and_eq_true] at h
  exact h.1
/-- a path's beginnings are paths -/
theorem good_pre {p top : List UInt8} (hp : goodB p = true) (h : preB p top = true) : goodB top = true := by
  obtain ⟨T, hT, e⟩ := (preB_iff p top).1 h
  have hl : top.length ≤ p.length := by
    unfold preB at h
    have := List.IsPrefix.length_le (List.isPrefixOf_iff_prefix.1 h)
    simp at this
    omega
  unfold goodB at *
  rw [e] at hp
  simp only [Bool.and_eq_true, decide_eq_true_eq] at hp ⊢
  refine ⟨⟨by omega, all_pre hp.1.2⟩, ?_⟩
  have := hp.2
  rw [List.length_append] at this
  omega
/-- the order's law on what is under a path -/
theorem under_order {a b c : List UInt8} (h : underB c a = true) : cmpT a c = -1 ∧ (cmpT a b < 0 → cmpT b c < 0 → goodB b = true → underB b a = true) := by
  unfold underB at h
  simp only [Bool.and_eq_true] at h
  obtain ⟨⟨_, ha⟩, hp⟩ := h
  obtain ⟨T, hT, e⟩ := (preB_iff c a).1 hp
  refine ⟨by unfold cmpT; rw [e]; exact cmpP_app _ hT, fun h1 h2 hb => ?_⟩
  unfold cmpT at h1 h2
  rw [e] at h2
  obtain ⟨U, hU, e2⟩ := cmpP_mid _ _ _ h1 h2
  unfold underB
  rw [hb, ha, (preB_iff b a).2 ⟨U, hU, e2⟩]
  rfl
end Go.Proofs.Ytdnljmncdbcgeaa

/- Rows of what stands at paths, in the paths' order: plain. No program. -/
namespace Go.Proofs.Ytdnljmncdbcgeaa

theorem ordT : Ord3 cmpT where
  rng _ _ := ordP.rng _ _
  flip _ _ := ordP.flip _ _
  eq := cmpT_eq
  trans _ _ _ h k := ordP.trans _ _ _ h k
theorem cmpT_self (a : List UInt8) : cmpT a a = 0 := (cmpT_eq a a).2 rfl
/-- not behind -/
def leT (x y : List UInt8) : Bool := !decide (cmpT y x < 0)
theorem leT_trans (a b c : List UInt8) (h : leT a b = true) (k : leT b c = true) : leT a c = true := by
  simp only [leT, Bool.not_eq_true', decide_eq_false_iff_not] at *
  intro hc
  have h1 := ordT.flip a b
  have h2 := ordT.flip b c
  have h3 := ordT.flip a c
  by_cases e : cmpT a b = 0
  · have := (cmpT_eq a b).1 e
    subst this
    omega
  · by_cases e2 : cmpT b c = 0
    · have := (cmpT_eq b c).1 e2
      subst this
      omega
    · have := ordT.trans a b c (by omega) (by omega)
      omega
theorem leT_total (a b : List UInt8) : (leT a b || leT b a) = true := by
  simp only [leT, Bool.or_eq_true, Bool.not_eq_true', decide_eq_false_iff_not]
  have h1 := ordT.flip a b
  omega
theorem leT_anti (a b : List UInt8) (h : leT a b = true) (k : leT b a = true) : a = b := by
  simp only [leT, Bool.not_eq_true', decide_eq_false_iff_not] at *
  have h1 := ordT.flip a b
  exact (cmpT_eq a b).1 (by omega)

theorem nodup_len : ∀ (a b : List (List UInt8)), a.Nodup → a ⊆ b → a.length ≤ b.length
  | [], _, _, _ => Nat.zero_le _
  | x :: a, b, h, hs => by
    have hx : x ∈ b := hs (by simp)
    have hc := List.nodup_cons.1 h
    have h1 := nodup_len a (b.erase x) hc.2 (fun y hy => (List.mem_erase_of_ne (fun (e : y = x) => hc.1 (by rw [← e]; exact hy))).2 (hs (by simp [hy])))
    have h2 := List.length_pos_of_mem hx
    rw [List.length_erase_of_mem hx] at h1
    simp only [List.length_cons]
    omega
section
variable {α : Type}
/-- what stands at a path -/
def getR (L : List (List UInt8 × α)) (p : List UInt8) : Option α := (L.find? fun x => x.1 == p).map (·.2)
def withoutR (L : List (List UInt8 × α)) (p : List UInt8) : List (List UInt8 × α) := L.filter fun x => !(x.1 == p)
def insR (p : List UInt8) (v : α) : List (List UInt8 × α) → List (List UInt8 × α)
  | [] => [(p, v)]
  | x :: L => if 0 < cmpT x.1 p then (p, v) :: x :: L else x :: insR p v L
def putR (L : List (List UInt8 × α)) (p : List UInt8) (v : α) : List (List UInt8 × α) := insR p v (withoutR L p)
def keysR (L : List (List UInt8 × α)) : List (List UInt8) := L.map (·.1)
/-- in the paths' order, no path twice -/
def SortR (L : List (List UInt8 × α)) : Prop := L.Pairwise fun a b => cmpT a.1 b.1 < 0

theorem getR_nil (p : List UInt8) : getR ([] : List (List UInt8 × α)) p = none := rfl
theorem getR_cons (x : List UInt8 × α) (L : List (List UInt8 × α)) (p : List UInt8) : getR (x :: L) p = if x.1 = p then some x.2 else getR L p := by
  unfold getR
  rw [List.find?_cons]
  by_cases h : x.1 = p
  · simp [h]
  · rw [show (x.1 == p) = false by simpa using h, if_neg h]
theorem getR_none {L : List (List UInt8 × α)} {p : List UInt8} : getR L p = none ↔ ∀ x ∈ L, x.1 ≠ p := by
  induction L with
  | nil => simp [getR_nil]
  | cons y L ih =>
    rw [getR_cons]
    split
    · rename_i h; simp [h]
    · rename_i h; simp [h, ih]
theorem getR_mem {L : List (List UInt8 × α)} {p : List UInt8} {v : α} (h : getR L p = some v) : (p, v) ∈ L := by
  induction L with
  | nil => simp [getR_nil] at h
  | cons y L ih =>
    rw [getR_cons] at h
    split at h
    · rename_i e; cases h; subst e; simp
    · exact List.mem_cons_of_mem _ (ih h)
theorem getR_isSome {L : List (List UInt8 × α)} {p : List UInt8} : (getR L p).isSome = true ↔ p ∈ keysR L := by
  constructor
  · intro h
    obtain ⟨v, hv⟩ := Option.isSome_iff_exists.1 h
    exact List.mem_map.2 ⟨(p, v), getR_mem hv, rfl⟩
  · intro h
    obtain ⟨x, hx, rfl⟩ := List.mem_map.1 h
    rcases hg : getR L x.1 with _ | v
    · exact absurd rfl (getR_none.1 hg x hx)
    · rfl
theorem SortR.get {L : List (List UInt8 × α)} (h : SortR L) {x : List UInt8 × α} (hx : x ∈ L) : getR L x.1 = some x.2 := by
  induction L with
  | nil => cases hx
  | cons y L ih =>
    rw [getR_cons]
    have hc := List.pairwise_cons.1 h
    rcases List.mem_cons.1 hx with rfl | hx
    · rw [if_pos rfl]
    · rw [if_neg, ih hc.2 hx]
      intro e
      have := hc.1 x hx
      rw [e, cmpT_self] at this
      omega
theorem SortR.nodup {L : List (List UInt8 × α)} (h : SortR L) : (keysR L).Nodup := by
  unfold keysR
  rw [List.nodup_iff_pairwise_ne, List.pairwise_map]
  exact h.imp fun hab e => by rw [e, cmpT_self] at hab; omega
theorem SortR.keys {L : List (List UInt8 × α)} (h : SortR L) : (keysR L).Pairwise fun a b => leT a b = true := by
  unfold keysR
  rw [List.pairwise_map]
  refine h.imp fun {a b} hab => ?_
  simp only [leT, Bool.not_eq_true', decide_eq_false_iff_not]
  have := ordT.flip a.1 b.1
  omega
/-- the paths, collected in whatever order, sorted -/
theorem sort_keys {L : List (List UInt8 × α)} (h : SortR L) (f : List UInt8 → Bool) {ss : List (List UInt8)} (hn : ss.Nodup) (hm : ∀ k, k ∈ ss ↔ (k ∈ keysR L ∧ f k = true)) : ss.mergeSort leT = (keysR L).filter f := by
  have hp : ss.Perm ((keysR L).filter f) := (List.perm_ext_iff_of_nodup hn (h.nodup.filter _)).2 fun k => by rw [hm, List.mem_filter]
  refine List.Perm.eq_of_pairwise (le := fun a b => leT a b = true) (fun a b _ _ h1 h2 => leT_anti a b h1 h2) (List.pairwise_mergeSort leT_trans leT_total ss) (h.keys.filter _) ((List.mergeSort_perm ss leT).trans hp)
theorem SortR.ext {L M : List (List UInt8 × α)} (h : SortR L) (k : SortR M) (e : ∀ p, getR L p = getR M p) : L = M := by
  have hp : (keysR L).Perm (keysR M) := (List.perm_ext_iff_of_nodup h.nodup k.nodup).2 fun p => by rw [← getR_isSome, ← getR_isSome, e]
  have hk : keysR L = keysR M := List.Perm.eq_of_pairwise (le := fun a b => leT a b = true) (fun a b _ _ h1 h2 => leT_anti a b h1 h2) h.keys k.keys hp
  have hl : L.length = M.length := by simpa [keysR] using congrArg List.length hk
  refine List.ext_getElem hl fun i h1 h2 => ?_
  have e1 : (L[i]).1 = (M[i]).1 := by
    have := congrArg (fun l => l[i]?) hk
    simpa [keysR, List.getElem?_map, List.getElem?_eq_getElem h1, List.getElem?_eq_getElem h2] using this
  have g1 := h.get (List.getElem_mem h1)
  have g2 := k.get (List.getElem_mem h2)
  rw [e, e1, g2] at g1
  exact Prod.ext e1 (by simpa using g1.symm)

theorem getR_without (L : List (List UInt8 × α)) (p k : List UInt8) : getR (withoutR L p) k = if k = p then none else getR L k := by
  induction L with
  | nil => simp [withoutR, getR_nil]
  | cons x L ih =>
    unfold withoutR at ih ⊢
    rw [List.filter_cons]
    by_cases h : x.1 = p
    · rw [if_neg (by simp [h]), ih, getR_cons]
      by_cases hk : k = p
      · rw [if_pos hk, if_pos hk]
      · rw [if_neg hk, if_neg hk, if_neg (by rw [h]; exact fun e => hk e.symm)]
    · rw [if_pos (by simp [h]), getR_cons, getR_cons, ih]
      by_cases hk : k = p
      · rw [if_pos hk, if_pos hk, if_neg (by rw [hk]; exact h)]
      · rw [if_neg hk, if_neg hk]
theorem SortR.without {L : List (List UInt8 × α)} (h : SortR L) (p : List UInt8) : SortR (withoutR L p) := List.Pairwise.filter _ h
theorem without_ne (L : List (List UInt8 × α)) (p : List UInt8) : ∀ x ∈ withoutR L p, x.1 ≠ p := by
  intro x hx
  have := (List.mem_filter.1 hx).2
  simpa using this
theorem mem_ins {p : List UInt8} {v : α} {L : List (List UInt8 × α)} {x : List UInt8 × α} : x ∈ insR p v L ↔ x = (p, v) ∨ x ∈ L := by
  induction L with
  | nil => simp [insR]
  | cons y L ih =>
    unfold insR
    split
    · simp
    · simp only [List.mem_cons, ih]
      exact ⟨fun h => by rcases h with h | h | h <;> simp [h], fun h => by rcases h with h | h | h <;> simp [h]⟩
theorem SortR.ins {p : List UInt8} {v : α} {L : List (List UInt8 × α)} (h : SortR L) (hn : ∀ x ∈ L, x.1 ≠ p) : SortR (insR p v L) := by
  induction L with
  | nil => simp [insR, SortR]
  | cons y L ih =>
    have hc := List.pairwise_cons.1 h
    have hf := ordT.flip y.1 p
    have hne : cmpT y.1 p ≠ 0 := fun e => hn y (by simp) ((cmpT_eq _ _).1 e)
    unfold insR
    split
    · rename_i h0
      refine List.pairwise_cons.2 ⟨fun x hx => ?_, h⟩
      rcases List.mem_cons.1 hx with rfl | hx
      · show cmpT p x.1 < 0
        omega
      · exact ordT.trans p y.1 x.1 (by omega) (hc.1 x hx)
    · rename_i h0
      refine List.pairwise_cons.2 ⟨fun x hx => ?_, ih hc.2 (fun x hx => hn x (by simp [hx]))⟩
      rcases mem_ins.1 hx with rfl | hx
      · show cmpT y.1 p < 0
        omega
      · exact hc.1 x hx
theorem getR_ins {p k : List UInt8} {v : α} {L : List (List UInt8 × α)} (hn : ∀ x ∈ L, x.1 ≠ p) : getR (insR p v L) k = if k = p then some v else getR L k := by
  induction L with
  | nil =>
    rw [insR, getR_cons]
    by_cases h : k = p
    · rw [if_pos h, if_pos h.symm]
    · rw [if_neg h, if_neg (fun e => h e.symm)]
  | cons y L ih =>
    unfold insR
    split
    · rw [getR_cons]
      by_cases h : k = p
      · rw [if_pos h, if_pos h.symm]
      · rw [if_neg h, if_neg (fun e => h e.symm)]
    · rw [getR_cons, getR_cons, ih (fun x hx => hn x (by simp [hx]))]
      by_cases h : k = p
      · rw [if_pos h, if_pos h, if_neg (by rw [h]; exact hn y (by simp))]
      · rw [if_neg h, if_neg h]
theorem getR_put (L : List (List UInt8 × α)) (p k : List UInt8) (v : α) : getR (putR L p v) k = if k = p then some v else getR L k := by
  unfold putR
  rw [getR_ins (without_ne L p), getR_without]
  by_cases h : k = p
  · rw [if_pos h, if_pos h]
  · rw [if_neg h, if_neg h, if_neg h]
theorem SortR.put {L : List (List UInt8 × α)} (h : SortR L) (p : List UInt8) (v : α) : SortR (putR L p v) := (h.without p).ins (without_ne L p)
theorem sortR_nil : SortR ([] : List (List UInt8 × α)) := List.Pairwise.nil
theorem ins_len (p : List UInt8) (v : α) : ∀ (L : List (List UInt8 × α)), (insR p v L).length = L.length + 1
  | [] => rfl
  | y :: L => by
    unfold insR
    split
    · rfl
    · simp [ins_len p v L]
theorem without_self {L : List (List UInt8 × α)} {p : List UInt8} (h : getR L p = none) : withoutR L p = L := by
  unfold withoutR
  rw [List.filter_eq_self]
  intro x hx
  have := getR_none.1 h x hx
  simp [this]
theorem without_len_le (L : List (List UInt8 × α)) (p : List UInt8) : (withoutR L p).length ≤ L.length := List.length_filter_le _ _
theorem SortR.without_len {L : List (List UInt8 × α)} (h : SortR L) {p : List UInt8} {v : α} (hg : getR L p = some v) : (withoutR L p).length + 1 = L.length := by
  have e : L = insR p v (withoutR L p) := h.ext ((h.without p).ins (without_ne L p)) fun k => by
    rw [getR_ins (without_ne L p), getR_without]
    by_cases hk : k = p
    · rw [if_pos hk, hk, hg]
    · rw [if_neg hk, if_neg hk]
  have := ins_len p v (withoutR L p)
  rw [← e] at this
  omega
theorem keys_len (L : List (List UInt8 × α)) : (keysR L).length = L.length := by simp [keysR]
/-- what is told of each is told of each -/
theorem getR_map {β : Type} (f : α → β) (L : List (List UInt8 × α)) (p : List UInt8) : getR (L.map fun x => (x.1, f x.2)) p = (getR L p).map f := by
  induction L with
  | nil => rfl
  | cons x L ih =>
    rw [List.map_cons, getR_cons, getR_cons, ih]
    by_cases h : x.1 = p
    · rw [if_pos h, if_pos h]; rfl
    · rw [if_neg h, if_neg h]
theorem without_map {β : Type} (f : α → β) (L : List (List UInt8 × α)) (p : List UInt8) : withoutR (L.map fun x => (x.1, f x.2)) p = (withoutR L p).map fun x => (x.1, f x.2) := by
  unfold withoutR
  rw [List.filter_map]
  rfl
theorem ins_map {β : Type} (f : α → β) (p : List UInt8) (v : α) : ∀ (L : List (List UInt8 × α)), insR p (f v) (L.map fun x => (x.1, f x.2)) = (insR p v L).map fun x => (x.1, f x.2)
  | [] => rfl
  | x :: L => by
    rw [List.map_cons, insR, insR]
    split
    · rfl
    · rw [ins_map f p v L]; rfl
theorem put_map {β : Type} (f : α → β) (L : List (List UInt8 × α)) (p : List UInt8) (v : α) : putR (L.map fun x => (x.1, f x.2)) p (f v) = (putR L p v).map fun x => (x.1, f x.2) := by
  unfold putR
  rw [without_map, ins_map]
theorem keys_map {β : Type} (f : α → β) (L : List (List UInt8 × α)) : keysR (L.map fun x => (x.1, f x.2)) = keysR L := by simp [keysR]
theorem sort_map {β : Type} (f : α → β) {L : List (List UInt8 × α)} : SortR (L.map fun x => (x.1, f x.2)) ↔ SortR L := by
  unfold SortR
  rw [List.pairwise_map]
end
end Go.Proofs.Ytdnljmncdbcgeaa

/- Maps keyed by texts, as rows in the paths' order: whatever the elements are. No program. -/
namespace Go.Proofs.Ytdnljmncdbcgeaa
open Go.Maps (Keyed string_keyed)
open Go.WideShapes Go.MapKept Go.ChangeMaps

/-- an element as it is -/
def heldR : Value → Option (DataW Value × List MemPlace) := fun v => some (.held v, [])
/-- what a map's datum tells at each text is what the row tells -/
def Tells (D : DataW Value) (L : List (List UInt8 × Value)) : Prop := ∀ p z, D.atKey (.string p) z = ((getR L p).map DataW.held).getD z
theorem Tells.has {D : DataW Value} {L : List (List UInt8 × Value)} (h : Tells D L) (p : List UInt8) : Go.Maps.has D (.string p) = (getR L p).isSome := by
  rcases hg : getR L p with _ | v
  · exact Go.Maps.has_false_of_atKey fun z => by rw [h, hg]; rfl
  · exact Go.Maps.has_true_of_atKey (y := .held v) fun z => by rw [h, hg]; rfl
theorem Tells.nil : Tells (.map []) [] := fun _ _ => rfl
theorem Tells.put {D : DataW Value} {L : List (List UInt8 × Value)} (h : Tells D L) (hD : Go.Maps.IsMap D) (p : List UInt8) (v : Value) : Tells (D.put (.string p) (.held v)) (putR L p v) := fun q z => by
  rw [getR_put]
  by_cases hq : q = p
  · subst hq
    rw [if_pos rfl, Go.Maps.atKey_put_same hD (k := .string q) (show WideAt.IsKeyLit (.string q) from trivial)]
    rfl
  · rw [if_neg hq, Go.Maps.atKey_put_other (by simpa using hq), h]
theorem Tells.del {D : DataW Value} {L : List (List UInt8 × Value)} (h : Tells D L) (p : List UInt8) : Tells (D.del (.string p)) (withoutR L p) := fun q z => by
  rw [getR_without]
  by_cases hq : q = p
  · subst hq
    rw [if_pos rfl, Go.Maps.atKey_del_same]
    rfl
  · rw [if_neg hq, Go.Maps.atKey_del_other (by simpa using hq), h]

section
variable {P : Program} {K : TypeId} {w w' : World} {b : Nat} {L : List (List UInt8 × Value)}
/-- block b is a map of type K's keys that has what the row has -/
structure MapAt (w : World) (P : Program) (K : TypeId) (b : Nat) (L : List (List UInt8 × Value)) : Prop where
  sort : SortR L
  own : ∃ D, w.ownsMap P K heldR b L.length D ∧ Tells D L
  len : ∀ x ∈ L, x.1.length ≤ maxLen

theorem own_shrink {H : Type} {R : Value → Option (DataW H × List MemPlace)} {n : Nat} {D : DataW H} (h : w.ownsMap P K R b n D) : w.ownsMap P K R b (Go.Maps.size D) D := by
  obtain ⟨es, clock, hb, F, _, rfl⟩ := h
  exact ⟨es, clock, hb, F, by rw [Go.Maps.size_eq, length_sorted]; simp, rfl⟩
/-- what the datum has are the row's paths -/
theorem own_keys {n : Nat} {D : DataW Value} (h : w.ownsMap P K heldR b n D) (hk : P.underlying K = some .string) (ht : Tells D L) (hs : SortR L) : (keysR L).Perm (strKeys D) ∧ Go.Maps.size D = L.length := by
  have law : Keyed P K := string_keyed hk
  obtain ⟨es, hD, hpw, _⟩ := h.entries law
  obtain ⟨es', hD', hko⟩ := h.keysOf
  obtain rfl : es = es' := by rw [hD] at hD'; simpa using hD'
  have hp : (keysR L).Perm (strKeys D) := by
    rw [hD]
    refine perm_strKeys hpw (fun p hp => by obtain ⟨v, hv⟩ := hko p hp; obtain ⟨x, _, hx, _⟩ := Maps.keyOf_str hk hv; exact ⟨x, hx⟩) hs.nodup fun x => ?_
    rw [← hD, ht.has, getR_isSome]
  refine ⟨hp, ?_⟩
  have := hp.length_eq
  rw [keys_len] at this
  rw [this, hD]
  simp [Go.Maps.size, strKeys]
theorem MapAt.of {n : Nat} {D : DataW Value} (h : w.ownsMap P K heldR b n D) (hk : P.underlying K = some .string) (ht : Tells D L) (hs : SortR L) : MapAt w P K b L := by
  obtain ⟨hp, hz⟩ := own_keys h hk ht hs
  refine ⟨hs, ⟨D, by rw [← hz]; exact own_shrink h, ht⟩, fun x hx => strKeys_le h hk _ (hp.mem_iff.1 (List.mem_map.2 ⟨x, hx, rfl⟩))⟩
theorem MapAt.lt (h : MapAt w P K b L) : b < w.heap.size := by
  obtain ⟨D, h1, _⟩ := h.own
  exact h1.lt
theorem MapAt.kept {row : Option Nat} (h : MapAt w P K b L) (hg : w.grownBy w' row) (hne : some b ≠ row) : MapAt w' P K b L := by
  obtain ⟨D, h1, h2⟩ := h.own
  exact ⟨h.sort, ⟨D, h1.kept hg hne, h2⟩, h.len⟩
theorem MapAt.block (h : MapAt w P K b L) (hb : w'.heap[b]? = w.heap[b]?) : MapAt w' P K b L := by
  obtain ⟨D, ⟨es, clock, h1, r⟩, h2⟩ := h.own
  exact ⟨h.sort, ⟨D, ⟨es, clock, hb.trans h1, r⟩, h2⟩, h.len⟩
/-- a new one -/
theorem MapAt.made (w : World) (P : Program) (K : TypeId) : MapAt (w.alloc (.map #[] 0)) P K w.heap.size [] := ⟨sortR_nil, ⟨_, World.ownsMap_made w P K heldR, Tells.nil⟩, by simp⟩
theorem MapAt.not_cells (h : MapAt w P K b L) {cs : Array Value} {t : TypeId} {f : Nat × Nat} : w.heap[b]? ≠ some (.cells cs t f) := by
  obtain ⟨D, ⟨es, clock, h1, _⟩, _⟩ := h.own
  rw [h1]
  simp

/-- m[k] -/
theorem MapAt.look (h : MapAt w P K b L) (hk : P.underlying K = some .string) {t e : TypeId} (ht : P.underlying t = some (.map K e)) {z : Value} (hz : (zeroValue e).run P w = .ok z w) (p : List UInt8) (hp : p.length ≤ maxLen) :
    (Instr.lookup t (.map (some b)) (.string ⟨⟨p⟩⟩) false).run P w = .ok ((getR L p).getD z) w := by
  obtain ⟨D, h1, h2⟩ := h.own
  obtain ⟨v, ps, hrun, hv⟩ := h1.lookup (string_keyed hk) ht hz (zd := .held z) (zp := []) rfl (Go.WideMaps.keyOf_string_mk hk (s := ⟨⟨p⟩⟩) hp)
  rw [hrun]
  have : DataW.held v = D.atKey (.string p) (.held z) := by simpa [heldR] using congrArg (fun o => o.map Prod.fst) hv
  rw [h2] at this
  congr 1
  rcases hg : getR L p with _ | u
  · rw [hg] at this; simpa using this
  · rw [hg] at this; simpa using this
theorem MapAt.look_ok (h : MapAt w P K b L) (hk : P.underlying K = some .string) {t e : TypeId} (ht : P.underlying t = some (.map K e)) {z : Value} (hz : (zeroValue e).run P w = .ok z w) (p : List UInt8) (hp : p.length ≤ maxLen) :
    (Instr.lookup t (.map (some b)) (.string ⟨⟨p⟩⟩) true).run P w = .ok (.tuple #[(getR L p).getD z, .bool (getR L p).isSome]) w := by
  obtain ⟨D, h1, h2⟩ := h.own
  obtain ⟨v, ps, hrun, hv⟩ := h1.look_ok (string_keyed hk) ht hz (zd := .held z) (zp := []) rfl (Go.WideMaps.keyOf_string_mk hk (s := ⟨⟨p⟩⟩) hp)
  rw [h2.has p] at hrun
  rw [hrun]
  have : DataW.held v = D.atKey (.string p) (.held z) := by simpa [heldR] using congrArg (fun o => o.map Prod.fst) hv
  rw [h2] at this
  have e : v = (getR L p).getD z := by
    rcases hg : getR L p with _ | u
    · rw [hg] at this; simpa using this
    · rw [hg] at this; simpa using this
  rw [e]
/-- m[k] = v -/
theorem MapAt.store (h : MapAt w P K b L) (hk : P.underlying K = some .string) {t e : TypeId} (ht : P.underlying t = some (.map K e)) (p : List UInt8) (hp : p.length ≤ maxLen) (v : Value) (hn : L.length < maxLen) :
    ∃ w', (Instr.mapUpdate t (.map (some b)) (.string ⟨⟨p⟩⟩) v).run P w = .ok () w' ∧ MapAt w' P K b (putR L p v) ∧ w.grownBy w' (some b) ∧ w'.heap.size = w.heap.size := by
  obtain ⟨D, h1, h2⟩ := h.own
  obtain ⟨w', hrun, r1, r2⟩ := h1.store (string_keyed hk) ht hn (Go.WideMaps.keyOf_string_mk hk (s := ⟨⟨p⟩⟩) hp) (val := v) (d := .held v) (ps := []) rfl
  refine ⟨w', hrun, MapAt.of r1 hk (h2.put h1.isMap p v) (h.sort.put p v), r2.grown, ?_⟩
  obtain ⟨_, _, es', clock', _, rfl⟩ := r2
  simp [setBlock]
/-- delete(m, k) -/
theorem MapAt.drop (h : MapAt w P K b L) (hk : P.underlying K = some .string) {t e : TypeId} (ht : P.underlying t = some (.map K e)) (p : List UInt8) (hp : p.length ≤ maxLen) (ty : TypeId) :
    ∃ w', (Builtin.delete_ #[t, K] ty #[.map (some b), .string ⟨⟨p⟩⟩]).run P w = .ok (.tuple #[]) w' ∧ MapAt w' P K b (withoutR L p) ∧ w.grownBy w' (some b) ∧ w'.heap.size = w.heap.size := by
  obtain ⟨D, h1, h2⟩ := h.own
  obtain ⟨w', hrun, r1, r2⟩ := h1.drop (string_keyed hk) ht (Go.WideMaps.keyOf_string_mk hk (s := ⟨⟨p⟩⟩) hp) ty
  refine ⟨w', hrun, MapAt.of r1 hk (h2.del p) (h.sort.without p), r2.grown, ?_⟩
  obtain ⟨_, _, es', clock', _, rfl⟩ := r2
  simp [setBlock]
/-- len(m) -/
theorem MapAt.count (h : MapAt w P K b L) (hk : P.underlying K = some .string) {t e : TypeId} (ht : P.underlying t = some (.map K e)) (ty : TypeId) : (Builtin.len_ #[t] ty #[.map (some b)]).run P w = .ok (.int .i64 L.length) w := by
  obtain ⟨D, h1, h2⟩ := h.own
  rw [h1.len ht ty, (own_keys h1 hk h2 h.sort).2]

/-- 'for k, v := range m' under way: what has come, in the order in which it came; nothing of the row comes twice -/
structure Rng (w : World) (P : Program) (K : TypeId) (b r : Nat) (L : List (List UInt8 × Value)) (seen : List (List UInt8)) (cnt : Nat) : Prop where
  sort : SortR L
  rng : ∃ D left, w.ranges P K heldR b r L.length D left cnt ∧ Tells D L ∧ Collected D left seen
  len : ∀ x ∈ L, x.1.length ≤ maxLen
theorem Rng.at_ {r cnt : Nat} {seen : List (List UInt8)} (h : Rng w P K b r L seen cnt) : MapAt w P K b L := by
  obtain ⟨D, left, h1, h2, _⟩ := h.rng
  exact ⟨h.sort, ⟨D, h1.owns, h2⟩, h.len⟩
theorem Rng.left_eq {r cnt : Nat} {seen : List (List UInt8)} (h : Rng w P K b r L seen cnt) : w.rangeLeft b r = cnt := by
  obtain ⟨D, left, h1, _⟩ := h.rng
  exact h1.left_eq
theorem Rng.lt {r cnt : Nat} {seen : List (List UInt8)} (h : Rng w P K b r L seen cnt) : r < w.heap.size := by
  obtain ⟨D, left, h1, _⟩ := h.rng
  exact h1.lt
theorem Rng.kept {r cnt : Nat} {seen : List (List UInt8)} {row : Option Nat} (h : Rng w P K b r L seen cnt) (hg : w.grownBy w' row) (hb : some b ≠ row) (hr : some r ≠ row) : Rng w' P K b r L seen cnt := by
  obtain ⟨D, left, h1, h2, h3⟩ := h.rng
  exact ⟨h.sort, ⟨D, left, h1.kept hg hb hr, h2, h3⟩, h.len⟩
theorem MapAt.range (h : MapAt w P K b L) (hk : P.underlying K = some .string) {t e : TypeId} (ht : P.underlying t = some (.map K e)) :
    ∃ w', (Instr.range t (.map (some b))).run P w = .ok (.pointer (some ⟨w.heap.size, 0, none⟩)) w' ∧ Rng w' P K b w.heap.size L [] L.length ∧ w.grownBy w' none ∧ w'.heap.size = w.heap.size + 1 := by
  obtain ⟨D, h1, h2⟩ := h.own
  obtain ⟨w', hrun, r1, r2, r3⟩ := h1.range (string_keyed hk) ht
  rw [(own_keys h1 hk h2 h.sort).2] at r1
  exact ⟨w', hrun, ⟨h.sort, ⟨D, _, r1, h2, Collected.start D⟩, h.len⟩, r2, r3⟩
/-- the step: nothing is left, and all has come; or something comes -/
theorem Rng.next {r cnt : Nat} {seen : List (List UInt8)} (h : Rng w P K b r L seen cnt) (hk : P.underlying K = some .string) (ty : TypeId) :
    ((Instr.next (.pointer (some ⟨r, 0, none⟩)) false ty).run P w = .ok (.tuple #[.bool false]) w ∧ cnt = 0 ∧ seen.Nodup ∧ ∀ k, k ∈ seen ↔ k ∈ keysR L) ∨
    ∃ (p : List UInt8) (v : Value) (w' : World) (cnt' : Nat), (p, v) ∈ L ∧ p ∉ seen ∧ (Instr.next (.pointer (some ⟨r, 0, none⟩)) false ty).run P w = .ok (.tuple #[.bool true, .string ⟨⟨p⟩⟩, v]) w' ∧ Rng w' P K b r L (seen ++ [p]) cnt' ∧ cnt' < cnt ∧ w.grownBy w' (some r) ∧ w'.heap.size = w.heap.size ∧
      (Instr.entry (.pointer (some ⟨r, 0, none⟩))).run P w' = .ok (.tuple #[.string ⟨⟨p⟩⟩, v]) w' := by
  obtain ⟨D, left, h1, h2, h3⟩ := h.rng
  rcases h1.next (string_keyed hk) ty with ⟨h0, hl, hrun⟩ | ⟨key, v, kl, y, w', cnt', hkey, hlk, hv, hat, hrun, hrg, hlt, hgr, hsz, hen⟩
  · refine .inl ⟨hrun, h0, h3.1, fun k => ?_⟩
    rw [h3.2 k, h2.has, getR_isSome, hl]
    simp
  · obtain ⟨p, rfl, rfl, hp⟩ := Maps.keyOf_str hk hkey
    obtain rfl : (DataW.held v, []) = y := by simpa [heldR] using hv
    have hg : getR L p = some v := by
      have := hat .nil
      rw [h2] at this
      rcases hq : getR L p with _ | u
      · rw [hq] at this; simp at this
      · rw [hq] at this; simpa using this
    refine .inr ⟨p, v, w', cnt', getR_mem hg, fun hx => ?_, hrun, ⟨h.sort, ⟨D, _, hrg, h2, h3.step hlk hat⟩, h.len⟩, hlt, hgr, hsz, hen⟩
    have := ((h3.2 p).1 hx).2
    rw [hlk] at this
    cases this
end
end Go.Proofs.Ytdnljmncdbcgeaa

/- A book, plainly: which entry is spare, what Put answers and leaves. No program. -/
namespace Go.Proofs.Ytdnljmncdbcgeaa

/-- an entry, plainly: version, kind, bytes -/
abbrev EP := Int × Int × List UInt8
/-- the entry of nothing of the least version, the first of them -/
def spareB : List (List UInt8 × EP) → Option (List UInt8 × EP)
  | [] => none
  | x :: l => match spareB l with
    | none => if x.2.2.1 = 0 then some x else none
    | some y => if x.2.2.1 = 0 ∧ x.2.1 ≤ y.2.1 then some x else some y
/-- one is ahead of the other -/
def aheadB (x y : List UInt8 × EP) : Prop := x.2.1 < y.2.1 ∨ (x.2.1 = y.2.1 ∧ cmpT x.1 y.1 < 0)
theorem spareB_none : ∀ {T : List (List UInt8 × EP)}, spareB T = none → ∀ y ∈ T, y.2.2.1 ≠ 0
  | [], _, y, hy => by cases hy
  | x :: l, h, y, hy => by
    unfold spareB at h
    rcases hs : spareB l with _ | z
    · rw [hs] at h
      dsimp only at h
      split at h
      · cases h
      · rename_i hx
        rcases List.mem_cons.1 hy with rfl | hy
        · exact hx
        · exact spareB_none hs y hy
    · rw [hs] at h
      dsimp only at h
      split at h <;> cases h
theorem spareB_mem : ∀ {T : List (List UInt8 × EP)} {x : List UInt8 × EP}, spareB T = some x → x ∈ T ∧ x.2.2.1 = 0
  | [], _, h => by cases h
  | y :: l, x, h => by
    unfold spareB at h
    rcases hs : spareB l with _ | z
    · rw [hs] at h
      dsimp only at h
      split at h
      · rename_i hx
        injection h with h
        subst h
        exact ⟨List.mem_cons_self, hx⟩
      · cases h
    · rw [hs] at h
      dsimp only at h
      split at h
      · rename_i hx
        injection h with h
        subst h
        exact ⟨List.mem_cons_self, hx.1⟩
      · injection h with h
        subst h
        obtain ⟨h1, h2⟩ := spareB_mem hs
        exact ⟨List.mem_cons_of_mem _ h1, h2⟩
theorem spareB_least : ∀ {T : List (List UInt8 × EP)} {x : List UInt8 × EP}, SortR T → spareB T = some x → ∀ y ∈ T, y.2.2.1 = 0 → y = x ∨ aheadB x y
  | [], _, _, h, _, _, _ => by cases h
  | z :: l, x, hT, h, y, hy, h0 => by
    unfold SortR at hT
    rw [List.pairwise_cons] at hT
    unfold spareB at h
    rcases hs : spareB l with _ | q
    · rw [hs] at h
      dsimp only at h
      split at h
      · injection h with h
        subst h
        rcases List.mem_cons.1 hy with rfl | hy
        · exact .inl rfl
        · exact absurd h0 (spareB_none hs y hy)
      · cases h
    · rw [hs] at h
      dsimp only at h
      obtain ⟨hq, _⟩ := spareB_mem hs
      have ih := fun y hy h0 => spareB_least (x := q) hT.2 hs y hy h0
      split at h
      · rename_i hz
        injection h with h
        subst h
        rcases List.mem_cons.1 hy with rfl | hy
        · exact .inl rfl
        · refine .inr ?_
          have hzy := hT.1 y hy
          rcases ih y hy h0 with rfl | hh | ⟨e, _⟩
          · unfold aheadB
            by_cases e : z.2.1 = y.2.1
            · exact .inr ⟨e, hzy⟩
            · exact .inl (by omega)
          · exact .inl (by omega)
          · unfold aheadB
            by_cases e2 : z.2.1 = y.2.1
            · exact .inr ⟨e2, hzy⟩
            · exact .inl (by omega)
      · rename_i hz
        injection h with h
        subst h
        rcases List.mem_cons.1 hy with rfl | hy
        · refine .inr (.inl ?_)
          have : ¬ (y.2.1 ≤ q.2.1) := fun e => hz ⟨h0, e⟩
          omega
        · exact ih y hy h0
theorem spareB_snoc (x : List UInt8 × EP) : ∀ T : List (List UInt8 × EP), spareB (T ++ [x]) = match spareB T with
    | none => if x.2.2.1 = 0 then some x else none
    | some y => if x.2.2.1 = 0 ∧ x.2.1 < y.2.1 then some x else some y
  | [] => rfl
  | z :: T => by
    have ih := spareB_snoc x T
    rw [List.cons_append, spareB, spareB, ih]
    rcases spareB T with _ | q
    · dsimp only
      by_cases h1 : x.2.2.1 = 0
      · by_cases h2 : z.2.2.1 = 0
        · by_cases h3 : z.2.1 ≤ x.2.1
          · simp [h1, h2, h3, Int.not_lt.2 h3]
          · simp [h1, h2, h3, Int.not_le.1 h3]
        · simp [h1, h2]
      · by_cases h2 : z.2.2.1 = 0 <;> simp [h1, h2]
    · dsimp only
      by_cases h1 : x.2.2.1 = 0 ∧ x.2.1 < q.2.1
      · by_cases h2 : z.2.2.1 = 0
        · by_cases h3 : z.2.1 ≤ x.2.1
          · have h4 : z.2.1 ≤ q.2.1 := by omega
            simp [h1, h2, h3, h4, Int.not_lt.2 h3]
          · by_cases h4 : z.2.1 ≤ q.2.1
            · simp [h1, h2, h3, h4, Int.not_le.1 h3]
            · simp [h1, h2, h3, h4]
        · simp [h1, h2]
      · rw [if_neg h1]
        by_cases h2 : z.2.2.1 = 0 ∧ z.2.1 ≤ q.2.1
        · simp only [if_pos h2]
          have : ¬ (x.2.2.1 = 0 ∧ x.2.1 < z.2.1) := fun ⟨e1, e2⟩ => h1 ⟨e1, by omega⟩
          rw [if_neg this]
        · simp only [if_neg h2, if_neg h1]
theorem aheadB_asymm {x y : List UInt8 × EP} (h : aheadB x y) (k : aheadB y x) : False := by
  unfold aheadB at h k
  have := ordT.flip x.1 y.1
  omega
theorem aheadB_trans {x y z : List UInt8 × EP} (h : aheadB x y) (k : aheadB y z) : aheadB x z := by
  unfold aheadB at *
  rcases h with h | ⟨h1, h2⟩
  · rcases k with k | ⟨k1, _⟩
    · exact .inl (by omega)
    · exact .inl (by omega)
  · rcases k with k | ⟨k1, k2⟩
    · exact .inl (by omega)
    · exact .inr ⟨by omega, ordT.trans _ _ _ h2 k2⟩
theorem aheadB_total (x y : List UInt8 × EP) (h : x.1 ≠ y.1) : aheadB x y ∨ aheadB y x := by
  unfold aheadB
  have h1 := ordT.flip x.1 y.1
  have h2 := cmpT_eq x.1 y.1
  by_cases e : x.2.1 = y.2.1
  · by_cases e2 : cmpT x.1 y.1 < 0
    · exact .inl (.inr ⟨e, e2⟩)
    · have e3 : cmpT x.1 y.1 ≠ 0 := fun e => h (h2.1 e)
      exact .inr (.inr ⟨e.symm, by omega⟩)
  · by_cases e2 : x.2.1 < y.2.1
    · exact .inl (.inl e2)
    · exact .inr (.inl (by omega))
/-- the least one is the spare one -/
theorem spareB_of {T : List (List UInt8 × EP)} {x : List UInt8 × EP} (hT : SortR T) (hx : x ∈ T) (h0 : x.2.2.1 = 0) (hl : ∀ y ∈ T, y.2.2.1 = 0 → y = x ∨ aheadB x y) : spareB T = some x := by
  rcases hs : spareB T with _ | z
  · exact absurd h0 (spareB_none hs x hx)
  · obtain ⟨hz, hz0⟩ := spareB_mem hs
    rcases hl z hz hz0 with rfl | h1
    · rfl
    · rcases spareB_least hT hs x hx h0 with rfl | h2
      · rfl
      · exact (aheadB_asymm h1 h2).elim
/-- what Put answers, and what it leaves; chk: what Check says of the entry -/
def putB (T : List (List UInt8 × EP)) (p : List UInt8) (x : EP) (chk : Int) : List (List UInt8 × EP) × Int :=
  if chk ≠ 0 then (T, chk)
  else if x.1 ≤ ((getR T p).map (·.1)).getD 0 then (T, 31)
  else if (getR T p).isNone = true ∧ 256 ≤ T.length then
    (spareB T).elim (T, 24) fun y => (putR (withoutR T y.1) p x, 0)
  else (putR T p x, 0)
end Go.Proofs.Ytdnljmncdbcgeaa

/- Small plain facts on numbers and worlds, no program. -/
namespace Go.Proofs.Ytdnljmncdbcgeaa
open Go.RowKit Go.WideShapes Go.ChangeShapes

theorem Try.own : ownKnob Try.prog.godebug = none := by kernel_rfl
theorem Try.laidOut : laidOutB Try.prog = true := by kernel_rfl

section
variable {H : Type} {enc : TypeId × Value → H} {P : Program}
/-- The row's last step, where all that was there before the call is as it was. -/
theorem post_below {f : Func} {s : ChangeSpec} {apart fresh handsOn again : Bool} {W W' : World} {args : Array Value} {v : Value} {ds gs : List (DataW H)} {before pa pv : List MemPlace}
    (hW : DataW.Whole enc P f.params.toList s.vars apart W args.toList ds gs before)
    (hres : ∀ (b : Nat) (sp : Nat → Bool) (hd : Bool), DataW.TrodAll enc P W' b sp hd f.resultTypes.toList (v.resultList f.resultTypes.size) (s.fn H (ds ++ gs)).results [])
    (hargs : ∀ sp : Nat → Bool, (∀ p ∈ before, sp p.block = true) → DataW.TrodAll enc P W' 0 sp true f.params.toList args.toList (s.fn H (ds ++ gs)).args pa)
    (hvars : ∀ sp : Nat → Bool, (∀ p ∈ before, sp p.block = true) → DataW.TrodVars enc P W' sp s.vars (s.fn H (ds ++ gs)).vars pv)
    (hps : before = pa ++ pv) (hb : Below W.heap.size W W')
    (hok : ∀ (j : Nat) (t : TypeId) (r : Value), f.resultTypes[j]? = some t → (v.resultList f.resultTypes.size)[j]? = some r → Value.okWide P W' .any 0 t r) :
    s.post enc P f apart fresh handsOn again W args v W' := by
  have hlt : ∀ p ∈ before, p.block < W.heap.size := fun p hp => hW.lt p hp
  have hold : ∀ p ∈ before, (fun b => decide (b < W.heap.size)) p.block = true := fun p hp => by simpa using hlt p hp
  refine ⟨ds, gs, before, [], pa, pv, hW, hres _ _ _, hargs _ hold, hvars _ hold, World.keptBut_mono (fun p hp => ⟨hp, ?_⟩) (hb.frame (· ∈ before)), fun _ => ?_⟩
  · rw [hps, List.mem_append] at hp
    exact Or.inr hp
  · obtain ⟨_, _, _, _, _, hz, hn⟩ := hW
    refine ⟨hok, _, _, ([] ++ pa) ++ pv, ⟨[] ++ pa, pv, trodAll_append (hargs _ (fun _ _ => rfl)) (hres _ _ _), hvars _ (fun _ _ => rfl), rfl, ?_, ?_⟩, ?_⟩
    · intro b off hp
      have hin : MemPlace.cell b off ∈ before := by rw [hps]; simpa using hp
      rw [hb.frozen (hlt _ hin)]
      exact hz b off hin
    · intro ha
      have := hn ha
      rw [hps] at this
      simpa using this
    · intro p hp _
      rw [hps]
      simpa using hp
end

theorem u64_bd {n : Int} (h : (Lit.int .u64 n).wf = true) : 0 ≤ n ∧ n < 18446744073709551616 := by
  simp [Lit.wf, IntKind.min, IntKind.max, IntKind.bits, IntKind.signed] at h
  omega
theorem i64_bd {n : Int} (h : (Lit.int .i64 n).wf = true) : -9223372036854775808 ≤ n ∧ n < 9223372036854775808 := by
  simp [Lit.wf, IntKind.min, IntKind.max, IntKind.bits, IntKind.signed] at h
  omega
theorem u8_bd {n : Int} (h : (Lit.int .u8 n).wf = true) : 0 ≤ n ∧ n < 256 := by
  simp [Lit.wf, IntKind.min, IntKind.max, IntKind.bits, IntKind.signed] at h
  omega
theorem u32_bd {n : Int} (h : (Lit.int .u32 n).wf = true) : 0 ≤ n ∧ n < 4294967296 := by
  simp [Lit.wf, IntKind.min, IntKind.max, IntKind.bits, IntKind.signed] at h
  omega
/-- all old cells and marks read as they did -/
theorem bcell {W w1 : World} (hb : Below W.heap.size W w1) : (∀ b o, b < W.heap.size → w1.cell? ⟨b, o, none⟩ = W.cell? ⟨b, o, none⟩) ∧ (∀ b o, b < W.heap.size → w1.frozen? ⟨b, o, none⟩ = W.frozen? ⟨b, o, none⟩) :=
  ⟨fun b o h => hb.cell (p := ⟨b, o, none⟩) h, fun b o h => hb.frozen (p := ⟨b, o, none⟩) h⟩
theorem bthen {a b c : World} (h : Below a.heap.size a b) (k : Below b.heap.size b c) : Below a.heap.size a c := h.trans (k.mono h.size)
/-- what a region keeps whose calls only make memory -/
theorem keep_drew {a : World} : Below a.heap.size a a.drew ∧ (∀ b o, b < a.heap.size → a.drew.cell? ⟨b, o, none⟩ = a.cell? ⟨b, o, none⟩) :=
  ⟨(Below.refl _ _).drew, fun _ _ _ => rfl⟩
theorem keep_then {a b c : World} (h : Below a.heap.size a b) (k : Below b.heap.size b c) : Below a.heap.size a c ∧ (∀ x o, x < a.heap.size → c.cell? ⟨x, o, none⟩ = a.cell? ⟨x, o, none⟩) :=
  ⟨bthen h k, (bcell (bthen h k)).1⟩
theorem cellAt {a b : World} (h : Below a.heap.size a b) {x o : Nat} {u : Value} (hx : x < a.heap.size) (hu : a.cell? ⟨x, o, none⟩ = some u) : b.cell? ⟨x, o, none⟩ = some u :=
  (h.cell (p := ⟨x, o, none⟩) hx).trans hu
theorem ret_b {x y : Bool} (h : x = y) : Ending.returned (.bool x) = .returned (.bool y) := by rw [h]
theorem ret_i {k : IntKind} {x y : Int} (h : x = y) : Ending.returned (.int k x) = .returned (.int k y) := by rw [h]
theorem ret2ib {k : IntKind} {a b : Int} {x y : Bool} (h1 : a = b) (h : x = y) : Ending.returned (.tuple #[.int k a, .bool x]) = .returned (.tuple #[.int k b, .bool y]) := by rw [h1, h]
theorem ret3b {a b : Value} {x y : Bool} (h : x = y) : Ending.returned (.tuple #[a, b, .bool x]) = .returned (.tuple #[a, b, .bool y]) := by rw [h]
theorem ret2b {a : Value} {x y : Bool} (h : x = y) : Ending.returned (.tuple #[a, .bool x]) = .returned (.tuple #[a, .bool y]) := by rw [h]
end Go.Proofs.Ytdnljmncdbcgeaa

/- From a law's contract ('it returns true, and all that was there is as it was') to its row. -/
namespace Go.Proofs.Ytdnljmncdbcgeaa
open Go.RowKit Go.WideShapes Go.ChangeShapes Go.ChangeAt

theorem trodAll_stays {H : Type} {enc : TypeId × Value → H} {W W' : World} {sp : Nat → Bool} (hb : Below W.heap.size W W') :
    ∀ (ts : List TypeId) (vs : List Value) (ds : List (DataW H)) (ps : List MemPlace), (∀ t ∈ ts, Try.prog.readableRec t = true ∧ t < Try.prog.types.size) →
      DataW.TrodAll enc Try.prog W 0 (fun _ => true) true ts vs ds ps → (∀ p ∈ ps, p.block < W.heap.size ∧ sp p.block = true) →
      DataW.TrodAll enc Try.prog W' 0 sp true ts vs ds ps
  | [], [], [], _, _, h, _ => h
  | t :: ts, v :: vs, d :: ds, ps, hr, h, hp => by
    obtain ⟨p, q, h1, h2, rfl⟩ := h
    refine ⟨p, q, ?_, trodAll_stays hb ts vs ds q (fun t ht => hr t (by simp [ht])) h2 (fun x hx => hp x (by simp [hx])), rfl⟩
    exact WideElems.Trod_stays Try.laidOut (hr t (by simp)).1 (hr t (by simp)).2 h1 (fun x hx => hb.same (hp x (by simp [hx])).1) (fun x hx => (hp x (by simp [hx])).2)
  | [], _ :: _, _, _, _, h, _ => h.elim
  | [], [], _ :: _, _, _, h, _ => h.elim
  | _ :: _, [], _, _, _, h, _ => h.elim
  | _ :: _, _ :: _, [], _, _, h, _ => h.elim

theorem trodAll_len {H : Type} {enc : TypeId × Value → H} {P : Program} {W : World} {base : Nat} {sp : Nat → Bool} {hd : Bool} :
    ∀ (ts : List TypeId) (vs : List Value) (ds : List (DataW H)) (ps : List MemPlace), DataW.TrodAll enc P W base sp hd ts vs ds ps → ds.length = ts.length
  | [], [], [], _, _ => rfl
  | t :: ts, v :: vs, d :: ds, ps, h => by
    obtain ⟨p, q, _, h2, _⟩ := h
    simpa using trodAll_len ts vs ds q h2
  | [], _ :: _, _, _, h => h.elim
  | [], [], _ :: _, _, h => h.elim
  | _ :: _, [], _, _, h => h.elim
  | _ :: _, _ :: _, [], _, h => h.elim

set_option maxRecDepth 100000 in
/-- every parameter's type can be read -/
theorem law_reads {ts : List TypeId} (h : (ts.all fun t => Try.prog.readableRec t && decide (t < Try.prog.types.size)) = true) : ∀ t ∈ ts, Try.prog.readableRec t = true ∧ t < Try.prog.types.size := by
  intro t ht
  have := List.all_eq_true.1 h t ht
  simpa using this

set_option maxRecDepth 100000 in
theorem law_lift {os : Os} (started : os.Started) {H : Type} {enc : TypeId × Value → H} {k : FuncId} {fn : Func} {s : ChangeSpec}
    (noInit : Try.checked.prog.inits.idxOf? k = none) (hfn : Try.prog.funcs[k]? = some fn)
    (hrt : fn.resultTypes = #[4]) (hvars : s.vars = [])
    (hread : ∀ t ∈ fn.params.toList, Try.prog.readableRec t = true ∧ t < Try.prog.types.size)
    (hs : ∀ ds : List (DataW H), ds.length = fn.params.toList.length → s.fn H ds = { results := [.lit (.bool true)], args := ds })
    (witness : ∃ (w : World) (tape : Tape) (i : Input), w.os = os ∧ (w.forCall tape i).Shaped Try.checked.prog ∧ i.vars = [] ∧ Input.okWide Try.checked.prog (w.forCall tape i) .any w.heap.size k i ∧
      s.pre6 enc Try.checked.prog fn [] false (w.forCall tape i).memory i.args ∧ ({} : Assume).holds Try.checked.prog (lone (Frame.enter Try.checked.prog k i.args .normal) [] (w.forCall tape i)))
    (contract : ∀ (W : World) (base : Nat) (args : Array Value) (ds : List (DataW H)) (ps : List MemPlace),
      (∀ (j : Nat) t v, fn.params[j]? = some t → args[j]? = some v → Value.okWide Try.prog W .any base t v) →
      DataW.TrodAll enc Try.prog W 0 (fun _ => true) true fn.params.toList args.toList ds ps →
      (∀ p ∈ ps, p.block < W.heap.size) →
      (DataW.weightsEach Try.prog fn.params.toList ds).all (· ≤ reachBytes) = true →
      Calls Try.prog k args W fun e W' => e = .returned (.bool true) ∧ Below W.heap.size W W') :
    ReturnsInHanded {} Try.checked os k .any (s.pre6 enc Try.checked.prog fn [] false) (s.post enc Try.checked.prog fn false true false false) := by
  refine returnsInHanded_of_change_sized (C := Try.checked) Try.own started noInit hfn witness ?_
  intro W base args ds gs before hval hW _ hsz _
  have hW' := hW
  obtain ⟨p, q, hA, hV, rfl, hfz, hnd⟩ := hW
  rw [hvars] at hV
  obtain ⟨rfl, rfl⟩ := trodVars_none hV
  have hlt : ∀ x ∈ p, x.block < W.heap.size := fun x hx => hW'.lt x (by simp [hx])
  have hlen : ds.length = fn.params.toList.length := trodAll_len _ _ _ _ hA
  have hsz' : (DataW.weightsEach Try.prog fn.params.toList ds).all (· ≤ reachBytes) = true := by
    have hv : s.plain.varTypes Try.checked.prog = [] := by simp only [ChangeSpec.plain, hvars]; rfl
    rw [hv, List.append_nil, List.append_nil] at hsz
    exact hsz
  refine (contract W base args ds p hval hA hlt hsz').mono fun e W' ⟨he, hb⟩ => ?_
  have e1 : s.fn H (ds ++ []) = { results := [.lit (.bool true)], args := ds } := by rw [List.append_nil]; exact hs ds hlen
  refine ⟨_, he, post_below (pa := p) (pv := []) hW' ?_ ?_ ?_ rfl hb ?_⟩
  · intro b sp hd
    rw [e1, hrt]
    exact trodAll_mk1 (shut_bool Try.underlying4 true)
  · intro sp hsp
    rw [e1]
    exact trodAll_stays hb _ _ _ _ hread hA (fun x hx => ⟨hlt x hx, hsp x (by simp [hx])⟩)
  · intro sp hsp
    rw [e1, hvars]
    rfl
  · exact ok_one hrt rfl (okWide_bool_mk Try.underlying4 true)
end Go.Proofs.Ytdnljmncdbcgeaa

/- Arguments opened: structs by value of any number of one-cell fields. -/
namespace Go.Proofs.Ytdnljmncdbcgeaa
open Go.RowKit Go.WideShapes Go.ChangeShapes Go.ChangeAt Go.Deep Go.Joins

section
variable {H : Type} {enc : TypeId × Value → H} {P : Program} {w : World} {base : Nat} {spare : Nat → Bool} {held : Bool}
/-- A struct by value: its cells, and each field's reading. -/
theorem open_aggN {r : Reach} {b0 : Nat} {t : TypeId} {fs : Array Field} {v : Value} {d : DataW H} {p : List MemPlace} (hs : P.underlying t = some (.struct fs)) (hone : oneCellFields P fs = true) (hC : P.cellsOf t = fs.size)
    (hv : Value.okWide P w r b0 t v) (h : DataW.Trod enc P w base spare held t v d p) :
    ∃ (cs : List Value) (ys : List (DataW H × List MemPlace)) (n : Nat), v = .agg cs.toArray ∧ cs.length = fs.size ∧ ys.length = fs.size ∧ d = .agg (ys.map (·.1)) ∧ p = ys.flatMap (·.2) ∧
      ∀ (j : Nat) (f : Field) (c : Value) (y : DataW H × List MemPlace), fs[j]? = some f → cs[j]? = some c → ys[j]? = some y → DataW.trod enc P w base spare held n f.type [c] = some y := by
  obtain ⟨cs, rfl, hsz⟩ := okWide_struct hs hv
  obtain ⟨l⟩ := cs
  obtain ⟨fuel, hf⟩ := h
  obtain ⟨xs, n, _, hx, hl, hlen, hg⟩ := DataW.trod_struct hs hf
  simp only [Prod.mk.injEq] at hx
  have hll : l.length = fs.size := by rw [← hC]; exact hsz
  refine ⟨l, xs, n, rfl, hll, hlen, hx.1, hx.2, fun j f c y hj hc hy => ?_⟩
  obtain ⟨ho, hk⟩ := hone_of hone j f hj
  have h1 := hg j f hj
  rw [ho, hk] at h1
  have hjl : j < l.length := by have := (Array.getElem?_eq_some_iff.1 hj).1; omega
  have e : ((Value.agg { toList := l }).cells.toList.drop j).take 1 = [c] := by
    show (l.drop j).take 1 = [c]
    rw [List.drop_eq_getElem_cons hjl, List.take_succ_cons, List.take_zero]
    rw [List.getElem?_eq_getElem hjl] at hc
    simpa using hc
  rw [e] at h1
  rw [h1, hy]

theorem list9 {α : Type} {l : List α} (h : l.length = 9) : ∃ a0 a1 a2 a3 a4 a5 a6 a7 a8, l = [a0, a1, a2, a3, a4, a5, a6, a7, a8] := by
  match l, h with
  | [a0, a1, a2, a3, a4, a5, a6, a7, a8], _ => exact ⟨_, _, _, _, _, _, _, _, _, rfl⟩
end
end Go.Proofs.Ytdnljmncdbcgeaa

/- Words for memory: what may change between two worlds (Fr), what a slice reads as (Rd), a block known whole (Blk), append onto an owned row. No program. -/
namespace Go.Proofs.Ytdnljmncdbcgeaa
open Go.RowKit

theorem add_none (b o j : Nat) : (⟨b, o, none⟩ : Addr).add j = ⟨b, o + j, none⟩ := by
  unfold Addr.add
  split
  · rename_i h; subst h; rfl
  · rfl

/-- Between w and w' only blocks of S, and new ones, have turned. -/
structure Fr (S : Nat → Prop) (w w' : World) : Prop where
  os : w'.os = w.os
  tape : w'.tape = w.tape
  output : w'.output = w.output
  size : w.heap.size ≤ w'.heap.size
  block : ∀ k, k < w.heap.size → ¬ S k → w'.heap[k]? = w.heap[k]?

/-- the block of a slice's address -/
def ablk : Option Addr → Option Nat | some a => some a.block | none => none

namespace Fr
variable {S S' : Nat → Prop} {a b c : World}
theorem refl (S : Nat → Prop) (w : World) : Fr S w w := ⟨rfl, rfl, rfl, Nat.le_refl _, fun _ _ _ => rfl⟩
theorem mono (h : Fr S a b) (hs : ∀ k, k < a.heap.size → S k → S' k) : Fr S' a b := ⟨h.os, h.tape, h.output, h.size, fun k hk hn => h.block k hk (fun hx => hn (hs k hk hx))⟩
theorem trans (h : Fr S a b) (k : Fr S' b c) (hs : ∀ x, x < a.heap.size → S' x → S x) : Fr S a c :=
  ⟨k.os.trans h.os, k.tape.trans h.tape, k.output.trans h.output, Nat.le_trans h.size k.size, fun x hx hn =>
    (k.block x (Nat.lt_of_lt_of_le hx h.size) (fun hy => hn (hs x hx hy))).trans (h.block x hx hn)⟩
theorem of_below (h : Below a.heap.size a b) (S : Nat → Prop) : Fr S a b := ⟨h.os, h.tape, h.output, h.size, fun k hk _ => h.block k hk⟩
theorem of_grown {row : Option Nat} (h : a.grownBy b row) (hr : ∀ k, k < a.heap.size → row = some k → S k) : Fr S a b :=
  ⟨h.os, h.tape, h.output, h.size, fun k hk hn => h.block k hk (fun e => hn (hr k hk e.symm))⟩
theorem below {B : Nat} (h : Fr S a b) (hB : B ≤ a.heap.size) (hs : ∀ k, k < B → ¬ S k) : Below B a b := ⟨h.os, h.tape, h.output, h.size, fun k hk => h.block k (by omega) (hs k hk)⟩
theorem then_below (h : Fr S a b) (k : Below b.heap.size b c) : Fr S a c := h.trans (of_below k S) (fun _ _ h => h)
theorem drew (h : Fr S a b) : Fr S a b.drew := ⟨h.os, h.tape, h.output, h.size, h.block⟩
theorem drewN (h : Fr S a b) (n : Nat) : Fr S a (b.drewN n) := ⟨h.os, h.tape, h.output, h.size, h.block⟩
theorem alloc (h : Fr S a b) (o : Obj) : Fr S a (b.alloc o) :=
  h.then_below ((Below.refl _ _).alloc (Nat.le_refl _) o)
theorem setCell (h : Fr S a b) {p : Addr} (hp : p.block < a.heap.size → S p.block) (u : Value) : Fr S a (b.setCell p u) :=
  ⟨h.os, h.tape, h.output, by simpa [World.setCell] using h.size, fun k hk hn => (Below.heap_setCell b p u k (by rintro rfl; exact hn (hp hk))).trans (h.block k hk hn)⟩
theorem setAt (h : Fr S a b) (x o : Nat) (hx : S x) (u : Value) : Fr S a (b.setCell ⟨x, o, none⟩ u) := h.setCell (p := ⟨x, o, none⟩) (fun _ => hx) u
theorem cell (h : Fr S a b) {p : Addr} (hp : p.block < a.heap.size) (hn : ¬ S p.block) : b.cell? p = a.cell? p := World.cell?_of_block (w := a) (h.block p.block hp hn)
theorem frozen (h : Fr S a b) {p : Addr} (hp : p.block < a.heap.size) (hn : ¬ S p.block) : b.frozen? p = a.frozen? p := World.frozen?_of_block (w := a) (h.block p.block hp hn)
end Fr

/-- The slice's address A reads, n elements of so many cells, as the cells xs; they lie in a block of Z. -/
def Rd (w : World) (Z : Nat → Prop) (size : Nat) (A : Option Addr) (n : Nat) (xs : List Value) : Prop :=
  xs.length = n * size ∧ (0 < n * size → ∃ b off, A = some ⟨b, off, none⟩ ∧ Z b ∧ b < w.heap.size ∧ ∀ j u, xs[j]? = some u → w.cell? ⟨b, off + j, none⟩ = some u)

namespace Rd
variable {w w' : World} {Z Z' S : Nat → Prop} {size n : Nat} {A : Option Addr} {xs : List Value}
theorem nil : Rd w Z size A 0 [] := ⟨by simp, fun h => by simp at h⟩
theorem fr (h : Rd w Z size A n xs) (k : Fr S w w') (hs : ∀ b, b < w.heap.size → Z b → ¬ S b) : Rd w' Z size A n xs :=
  ⟨h.1, fun hn => by
    obtain ⟨b, off, e, hz, hb, hc⟩ := h.2 hn
    exact ⟨b, off, e, hz, Nat.lt_of_lt_of_le hb k.size, fun j u hu => (k.cell (p := ⟨b, off + j, none⟩) hb (hs b hb hz)).trans (hc j u hu)⟩⟩
theorem below (h : Rd w Z size A n xs) (k : Below w.heap.size w w') : Rd w' Z size A n xs := h.fr (Fr.of_below k (fun _ => False)) (fun _ _ _ h => h)
theorem mono (h : Rd w Z size A n xs) (hz : ∀ b, b < w.heap.size → Z b → Z' b) : Rd w Z' size A n xs :=
  ⟨h.1, fun hn => by
    obtain ⟨b, off, e, hz', hb, hc⟩ := h.2 hn
    exact ⟨b, off, e, hz b hb hz', hb, hc⟩⟩
theorem drew (h : Rd w Z size A n xs) : Rd w.drew Z size A n xs := h
theorem drewN (h : Rd w Z size A n xs) (k : Nat) : Rd (w.drewN k) Z size A n xs := h
theorem alloc (h : Rd w Z size A n xs) (o : Obj) : Rd (w.alloc o) Z size A n xs := h.below ((Below.refl _ _).alloc (Nat.le_refl _) o)
/-- one element of one cell -/
theorem at1 {k : Nat} (h : Rd w Z 1 A n xs) (hk : k < n) : ∃ b off, A = some ⟨b, off, none⟩ ∧ Z b ∧ b < w.heap.size ∧ w.cell? ⟨b, off + k, none⟩ = some (xs.getD k undef) := by
  obtain ⟨b, off, e, hz, hb, hc⟩ := h.2 (by omega)
  have hl : k < xs.length := by have := h.1; omega
  refine ⟨b, off, e, hz, hb, hc k _ ?_⟩
  rw [List.getD_eq_getElem?_getD, List.getElem?_eq_getElem hl]
  rfl
/-- cell j of all -/
theorem atj {j : Nat} {u : Value} (h : Rd w Z size A n xs) (hu : xs[j]? = some u) : ∃ b off, A = some ⟨b, off, none⟩ ∧ Z b ∧ b < w.heap.size ∧ w.cell? ⟨b, off + j, none⟩ = some u := by
  have hj := (List.getElem?_eq_some_iff.1 hu).1
  have := h.1
  obtain ⟨b, off, e, hz, hb, hc⟩ := h.2 (by omega)
  exact ⟨b, off, e, hz, hb, hc j u hu⟩
/-- element k of a mapped list -/
theorem atm {α : Type} {f : α → Value} {l : List α} {k : Nat} (h : Rd w Z 1 A n (l.map f)) (hk : k < l.length) : ∃ b off, A = some ⟨b, off, none⟩ ∧ Z b ∧ b < w.heap.size ∧ w.cell? ⟨b, off + k, none⟩ = some (f l[k]) :=
  h.atj (by rw [List.getElem?_map, List.getElem?_eq_getElem hk]; rfl)
theorem some_of (h : Rd w Z size A n xs) (hn : 0 < n * size) : ∃ b off, A = some ⟨b, off, none⟩ ∧ Z b ∧ b < w.heap.size := by
  obtain ⟨b, off, e, hz, hb, _⟩ := h.2 hn
  exact ⟨b, off, e, hz, hb⟩
theorem take (h : Rd w Z size A n xs) {k : Nat} (hk : k ≤ n) : Rd w Z size A k (xs.take (k * size)) := by
  have hle : k * size ≤ n * size := Nat.mul_le_mul_right _ hk
  refine ⟨by rw [List.length_take, h.1]; omega, fun hn => ?_⟩
  obtain ⟨b, off, e, hz, hb, hc⟩ := h.2 (by omega)
  refine ⟨b, off, e, hz, hb, fun j u hu => hc j u ?_⟩
  rw [List.getElem?_take] at hu
  split at hu
  · exact hu
  · cases hu
/-- s[k:] -/
theorem drop (h : Rd w Z size A n xs) {k cap : Nat} (hk : k ≤ n) (hc : n ≤ cap) : Rd w Z size (if cap = k then A else A.map (·.add (k * size))) (n - k) (xs.drop (k * size)) := by
  refine ⟨by rw [List.length_drop, h.1, Nat.sub_mul], fun hn => ?_⟩
  have hkn : k < n := by
    rcases Nat.lt_or_ge k n with h1 | h1
    · exact h1
    · rw [show n - k = 0 by omega] at hn; simp at hn
  have hs : 0 < size := Nat.pos_of_mul_pos_left hn
  obtain ⟨b, off, rfl, hz, hb, hcell⟩ := h.2 (Nat.mul_pos (by omega) hs)
  rw [if_neg (by omega)]
  refine ⟨b, off + k * size, ?_, hz, hb, fun j u hu => ?_⟩
  · rw [Option.map_some, add_none]
  · rw [Nat.add_assoc]
    exact hcell _ u (by rw [← hu, List.getElem?_drop])
theorem of_own {base e : Nat} {c : Nat} (h : w.ownsRow base e size (.slice A n c) n xs) (hz : ∀ b, ablk A = some b → b < w.heap.size → Z b) : Rd w Z size A n xs := by
  refine ⟨h.1, fun hn => ?_⟩
  have hn' : 0 < n := Nat.pos_of_mul_pos_right hn
  obtain ⟨g, cap, hv, _, hlt⟩ := h.form hn'
  have hA : A = some ⟨g, 0, none⟩ := by injection hv
  subst hA
  refine ⟨g, 0, rfl, hz g rfl hlt, hlt, fun j u hu => ?_⟩
  have := h.cells (g := g) rfl j u hu
  rwa [add_none] at this
theorem of_block {b : Nat} {t : TypeId} {cs : Array Value} {fr : Nat × Nat} (h : w.heap[b]? = some (.cells cs t fr)) (hz : Z b) (hs : cs.size = n * size) : Rd w Z size (some ⟨b, 0, none⟩) n cs.toList := by
  refine ⟨by simpa using hs, fun _ => ⟨b, 0, rfl, hz, (Array.getElem?_eq_some_iff.1 h).1, fun j u hu => ?_⟩⟩
  rw [cell_of_row w b _ cs t fr h]
  simpa using hu
/-- a slice's literal, just laid -/
theorem lit {t : TypeId} {cs : Array Value} {b : Nat} (hs : cs.toList = xs) (hn : xs.length = n * size) (hb : b = w.heap.size) : Rd (w.alloc (.cells cs t)) (fun b => w.heap.size ≤ b) size (some ⟨b, 0, none⟩) n xs := by
  subst hs hb
  exact of_block (heap_alloc_new w _) (Nat.le_refl _) (by simpa using hn)
end Rd

/-- Block g is just the cells cs of element type t, none frozen. -/
def Blk (w : World) (g : Nat) (t : TypeId) (cs : Array Value) : Prop := w.heap[g]? = some (.cells cs t (0, 0))

namespace Blk
variable {w w' : World} {g : Nat} {t : TypeId} {cs : Array Value}
theorem lt (h : Blk w g t cs) : g < w.heap.size := (Array.getElem?_eq_some_iff.1 h).1
theorem cell (h : Blk w g t cs) (i : Nat) : w.cell? ⟨g, i, none⟩ = cs[i]? := cell_of_row w g i cs t (0, 0) h
theorem frozen (h : Blk w g t cs) (i : Nat) : w.frozen? ⟨g, i, none⟩ = false := by
  unfold Blk at h
  simp [World.frozen?, h]
theorem new (w : World) (t : TypeId) (cs : Array Value) : Blk (w.alloc (.cells cs t)) w.heap.size t cs := heap_alloc_new w _
theorem drew (h : Blk w g t cs) : Blk w.drew g t cs := h
theorem drewN (h : Blk w g t cs) (n : Nat) : Blk (w.drewN n) g t cs := h
theorem alloc (h : Blk w g t cs) (o : Obj) : Blk (w.alloc o) g t cs := (Below.heap_alloc w o g h.lt).trans h
theorem set_ (h : Blk w g t cs) (i : Nat) (u : Value) : Blk (w.setCell ⟨g, i, none⟩ u) g t (cs.setIfInBounds i u) := by
  unfold Blk at h ⊢
  simp [World.setCell, Array.getElem?_modify, h]
theorem far (h : Blk w g t cs) {p : Addr} (hp : g ≠ p.block) (u : Value) : Blk (w.setCell p u) g t cs := (Below.heap_setCell w p u g hp).trans h
theorem fr {S : Nat → Prop} (h : Blk w g t cs) (k : Fr S w w') (hs : ¬ S g) : Blk w' g t cs := (k.block g h.lt hs).trans h
theorem below (h : Blk w g t cs) (k : Below w.heap.size w w') : Blk w' g t cs := (k.block g h.lt).trans h
theorem grown {row : Option Nat} (h : Blk w g t cs) (hb : w.grownBy w' row) (hg : row ≠ some g) : Blk w' g t cs := (hb.block g h.lt (fun e => hg e.symm)).trans h
theorem ne_ {g' : Nat} {t' : TypeId} {cs' : Array Value} (h : Blk w g t cs) (h' : Blk w g' t' cs') (hne : t ≠ t') : g ≠ g' := by
  rintro rfl
  unfold Blk at h h'
  rw [h] at h'
  injection h' with h'
  injection h' with _ ht
  exact hne ht
theorem own_ne {base : Nat} {e : TypeId} {size n : Nat} {v : Value} {xs : List Value} (hg : Blk w g t cs) (h : w.ownsRow base e size v n xs) (hne : e ≠ t) : v.ownBlock ≠ some g := by
  rcases h.2 with ⟨rfl, _⟩ | ⟨g', cap, cur, rfl, _, hh, _⟩
  · simp [Value.ownBlock]
  · intro he
    have : g' = g := by simpa [Value.ownBlock] using he
    subst this
    exact Blk.ne_ (t := e) hh hg hne rfl
end Blk

theorem own_fr {w w' : World} {base : Nat} {e : TypeId} {size n : Nat} {v : Value} {xs : List Value} {S : Nat → Prop} (h : w.ownsRow base e size v n xs) (k : Fr S w w') (hs : ∀ g, v.ownBlock = some g → ¬ S g) : w'.ownsRow base e size v n xs := by
  refine ⟨h.1, ?_⟩
  rcases h.2 with hn | ⟨g, cap, cur, rfl, hb, hg, r⟩
  · exact .inl hn
  · exact .inr ⟨g, cap, cur, rfl, hb, by rw [k.block g (Array.getElem?_eq_some_iff.1 hg).1 (hs g rfl)]; exact hg, r⟩
theorem own_below {w w' : World} {base : Nat} {e : TypeId} {size n : Nat} {v : Value} {xs : List Value} (h : w.ownsRow base e size v n xs) (k : Below w.heap.size w w') : w'.ownsRow base e size v n xs :=
  own_fr h (Fr.of_below k (fun _ => False)) (fun _ _ h => h)
theorem own_form {w : World} {base : Nat} {e : TypeId} {size n : Nat} {v : Value} {xs : List Value} (h : w.ownsRow base e size v n xs) : ∃ A c, v = .slice A n c ∧ n ≤ c ∧ c ≤ maxLen ∧ (∀ b, ablk A = some b → base ≤ b ∧ b < w.heap.size ∧ v.ownBlock = some b) ∧ (A = none → n = 0 ∧ c = 0) ∧ (∀ a, A = some a → a = ⟨a.block, 0, none⟩) := by
  rcases h.2 with ⟨rfl, rfl⟩ | ⟨g, cap, cur, rfl, hb, hg, hn, hm, r⟩
  · exact ⟨none, 0, rfl, Nat.le_refl _, by simp [maxLen], by simp [ablk], by simp, by simp⟩
  · exact ⟨some ⟨g, 0, none⟩, cap, rfl, hn, hm, by rintro b hb'; simp [ablk] at hb'; subst hb'; exact ⟨hb, (Array.getElem?_eq_some_iff.1 hg).1, rfl⟩, by simp, by simp⟩
theorem own_base {w : World} {base base' : Nat} {e : TypeId} {size n : Nat} {v : Value} {xs : List Value} (h : w.ownsRow base e size v n xs) (hb : ∀ g, v.ownBlock = some g → base' ≤ g) : w.ownsRow base' e size v n xs := by
  refine ⟨h.1, ?_⟩
  rcases h.2 with hn | ⟨g, cap, cur, rfl, _, r⟩
  · exact .inl hn
  · exact .inr ⟨g, cap, cur, rfl, hb g rfl, r⟩
theorem own_lt {w : World} {base : Nat} {e : TypeId} {size n : Nat} {v : Value} {xs : List Value} (h : w.ownsRow base e size v n xs) : ∀ g, v.ownBlock = some g → base ≤ g ∧ g < w.heap.size := h.lt

section
variable {P : Program} (w : World)

theorem run_append_of_nil (base : Nat) (t ty e : TypeId) (i : TypeInfo) (size : Nat) (ht : P.underlying t = some (.slice e)) (hi : P.info? e = some i)
    (v : Value) (n : Nat) (xs : List Value) (hown : w.ownsRow base e size v n xs) (c : Nat) : (Builtin.append_ #[t, t] ty #[v, .slice none 0 c]).run P w = .ok v w := by
  rcases hown.2 with ⟨rfl, rfl⟩ | ⟨g, cap, cur, rfl, _, _, hnc, _⟩
  · simp [Builtin.append_, run_underlying ht, sizeOf, typeInfo, hi, Builtin.lenOf, Builtin.firstCells]
  · simp [Builtin.append_, run_underlying ht, sizeOf, typeInfo, hi, Builtin.lenOf, Builtin.firstCells, hnc, storeCells]

/-- append onto an owned row, whatever the source is -/
theorem run_append_any (base : Nat) (t ty e : TypeId) (i : TypeInfo) (z : Value) (size bytes : Nat) (ht : P.underlying t = some (.slice e)) (hi : P.info? e = some i) (hz : i.zero = some z)
    (hsize : i.size = size) (hby : i.bytes = bytes) (hzs : z.cells.size = size) (hsz : 0 < size)
    (v : Value) (n : Nat) (xs : List Value) (hown : w.ownsRow base e size v n xs)
    (Z : Nat → Prop) (A : Option Addr) (m c : Nat) (news : List Value) (hr : Rd w Z size A m news) (h1 : ∀ u ∈ news, u.oneCell' = true)
    (h63 : n + m ≤ maxLen) (hbytes : (n + m) * bytes ≤ 140737488355328) (hbase : base ≤ w.heap.size) :
    ∃ v' w', (Builtin.append_ #[t, t] ty #[v, .slice A m c]).run P w = .ok v' w' ∧ w'.ownsRow base e size v' (n + m) (xs ++ news) ∧ w.grownBy w' v.ownBlock ∧
      (v'.ownBlock = v.ownBlock ∨ v'.ownBlock = some w.heap.size) := by
  rcases A with _ | ad
  · have hm : m = 0 := by
      rcases Nat.eq_zero_or_pos m with h0 | h0
      · exact h0
      · obtain ⟨b, off, h, _⟩ := hr.2 (Nat.mul_pos h0 hsz)
        cases h
    subst hm
    have hn : news = [] := List.eq_nil_of_length_eq_zero (by simpa using hr.1)
    subst hn
    exact ⟨v, w, run_append_of_nil w base t ty e i size ht hi v n xs hown c, by simpa using hown, World.grownBy.refl w _, .inl rfl⟩
  · have hcells : ∀ j u, news[j]? = some u → w.cell? (ad.add j) = some u := by
      intro j u hu
      obtain ⟨b, off, h, _, _, hc⟩ := hr.atj hu
      injection h with h
      subst h
      rw [add_none]
      exact hc
    obtain ⟨v', w', hrun, h2, h3, _, h5⟩ := run_append_own_at (P := P) w base t ty e i z size bytes ht hi hz hsize hby hzs hsz v n xs hown ad m c news hr.1 hcells h1 h63 hbytes hbase
    exact ⟨v', w', hrun, h2, h3, h5⟩

theorem wp_append_any {o : Oper} {a : Act} {K : Act → World → Prop} {Q : Exit → Act → World → Prop} (s x : Operand) (t : TypeId)
    (ho : o.op = .call { callee := .builtin .append, args := #[s, x], argTypes := #[t, t] })
    (base : Nat) (e : TypeId) (i : TypeInfo) (z : Value) (size bytes : Nat) (ht : P.underlying t = some (.slice e)) (hi : P.info? e = some i) (hz : i.zero = some z)
    (hsize : i.size = size) (hby : i.bytes = bytes) (hzs : z.cells.size = size) (hsz : 0 < size)
    (v : Value) (n : Nat) (xs : List Value) (hs : a.eval s = v) (hown : w.ownsRow base e size v n xs)
    (Z : Nat → Prop) (A : Option Addr) (m c : Nat) (news : List Value) (hx : a.eval x = .slice A m c) (hr : Rd w Z size A m news) (h1 : ∀ u ∈ news, u.oneCell' = true)
    (h63 : n + m ≤ maxLen) (hbytes : (n + m) * bytes ≤ 140737488355328) (hbase : base ≤ w.heap.size)
    (h : ∀ v' w', w'.ownsRow base e size v' (n + m) (xs ++ news) → w.grownBy w' v.ownBlock → (v'.ownBlock = v.ownBlock ∨ v'.ownBlock = some w.heap.size) → K (a.put o.dst v') w') : o.wp P a w K Q := by
  obtain ⟨v', w', hrun, h2, h3, h4⟩ := run_append_any (P := P) w base t o.type e i z size bytes ht hi hz hsize hby hzs hsz v n xs hown Z A m c news hr h1 h63 hbytes hbase
  unfold Oper.wp execOp
  simp only [ho, resolve, invoke, builtin, Sem.run_bind, Sem.run_pure, Result.andThen_ok, List.map_toArray, List.map_cons, List.map_nil, hs, hx, hrun]
  exact h v' w' h2 h3 h4

theorem wpList_append_any {ops : Array Oper} {rest : List Oper} {o : Oper} {a : Act} {Q : Exit → Act → World → Prop} (hgd : o.guard = none) (s x : Operand) (t : TypeId)
    (ho : o.op = .call { callee := .builtin .append, args := #[s, x], argTypes := #[t, t] })
    (base : Nat) (e : TypeId) (i : TypeInfo) (z : Value) (size bytes : Nat) (ht : P.underlying t = some (.slice e)) (hi : P.info? e = some i) (hz : i.zero = some z)
    (hsize : i.size = size) (hby : i.bytes = bytes) (hzs : z.cells.size = size) (hsz : 0 < size)
    (v : Value) (n : Nat) (xs : List Value) (hs : a.eval s = v) (hown : w.ownsRow base e size v n xs)
    (Z : Nat → Prop) (A : Option Addr) (m c : Nat) (news : List Value) (hx : a.eval x = .slice A m c) (hr : Rd w Z size A m news) (h1 : ∀ u ∈ news, u.oneCell' = true)
    (h63 : n + m ≤ maxLen) (hbytes : (n + m) * bytes ≤ 140737488355328) (hbase : base ≤ w.heap.size)
    (h : ∀ v' w', w'.ownsRow base e size v' (n + m) (xs ++ news) → w.grownBy w' v.ownBlock → (v'.ownBlock = v.ownBlock ∨ v'.ownBlock = some w.heap.size) → wpList P ops Q rest (a.put o.dst v') w') : wpList P ops Q (o :: rest) a w :=
  wpList_plain hgd fun _ hK => wp_append_any w s x t ho base e i z size bytes ht hi hz hsize hby hzs hsz v n xs hs hown Z A m c news hx hr h1 h63 hbytes hbase fun v' w' h2 h3 h4 => hK _ _ (h v' w' h2 h3 h4)

theorem step_append_any {ops : Array Oper} {o : Oper} {a : Act} {K : Act → World → Prop} {Q : Exit → Act → World → Prop} {E : Prop} (hgd : o.guard = none) (s x : Operand) (t : TypeId)
    (ho : o.op = .call { callee := .builtin .append, args := #[s, x], argTypes := #[t, t] })
    (base : Nat) (e : TypeId) (i : TypeInfo) (z : Value) (size bytes : Nat) (ht : P.underlying t = some (.slice e)) (hi : P.info? e = some i) (hz : i.zero = some z)
    (hsize : i.size = size) (hby : i.bytes = bytes) (hzs : z.cells.size = size) (hsz : 0 < size)
    (v : Value) (n : Nat) (xs : List Value) (hs : a.eval s = v) (hown : w.ownsRow base e size v n xs)
    (Z : Nat → Prop) (A : Option Addr) (m c : Nat) (news : List Value) (hx : a.eval x = .slice A m c) (hr : Rd w Z size A m news) (h1 : ∀ u ∈ news, u.oneCell' = true)
    (h63 : n + m ≤ maxLen) (hbytes : (n + m) * bytes ≤ 140737488355328) (hbase : base ≤ w.heap.size)
    (h : ∀ v' w', w'.ownsRow base e size v' (n + m) (xs ++ news) → w.grownBy w' v.ownBlock → (v'.ownBlock = v.ownBlock ∨ v'.ownBlock = some w.heap.size) → K (a.put o.dst v') w') :
    if Region.wanted o (yielded ops a.tmps) = true then Oper.wp P o a w K Q else E := by
  have hw : Region.wanted o (yielded ops a.tmps) = true := by simp [Region.wanted, hgd]
  rw [if_pos hw]
  exact wp_append_any w s x t ho base e i z size bytes ht hi hz hsize hby hzs hsz v n xs hs hown Z A m c news hx hr h1 h63 hbytes hbase h
end

/-- a byte as a value -/
def bv (x : UInt8) : Value := .int .u8 (x.toNat : Int)
theorem bv_one (l : List UInt8) : ∀ u ∈ l.map bv, u.oneCell' = true := by
  intro u hu
  obtain ⟨x, _, rfl⟩ := List.mem_map.1 hu
  rfl
/-- the slice's address A reads as the bytes l -/
def By (w : World) (Z : Nat → Prop) (A : Option Addr) (l : List UInt8) : Prop := Rd w Z 1 A l.length (l.map bv)
/-- v owns a row of the bytes l -/
def OwB (w : World) (base : Nat) (v : Value) (l : List UInt8) : Prop := w.ownsRow base 5 1 v l.length (l.map bv)
theorem u8_info : (Try.prog.info? 5).map (fun i => (i.zero, i.size, i.bytes)) = some (some (.int .u8 0), 1, 1) := by kernel_rfl

theorem OwB.nil (w : World) (base : Nat) : OwB w base (.slice none 0 0) [] := World.ownsRow_nil _ _ _ _
theorem OwB.below {w w' : World} {base : Nat} {v : Value} {l : List UInt8} (h : OwB w base v l) (k : Below w.heap.size w w') : OwB w' base v l := own_below h k
theorem OwB.fr {w w' : World} {base : Nat} {v : Value} {l : List UInt8} {S : Nat → Prop} (h : OwB w base v l) (k : Fr S w w') (hs : ∀ g, v.ownBlock = some g → ¬ S g) : OwB w' base v l := own_fr h k hs
theorem OwB.alloc {w : World} {base : Nat} {v : Value} {l : List UInt8} (h : OwB w base v l) (o : Obj) : OwB (w.alloc o) base v l := World.ownsRow.alloc h o
theorem OwB.lit1 (w : World) {base : Nat} {b : UInt8} {x : Int} (hx : bv b = .int .u8 x) (hb : base ≤ w.heap.size) : OwB (w.alloc (.cells #[.int .u8 x] 5)) base (.slice (some ⟨w.heap.size, 0, none⟩) 1 1) [b] := by
  have := World.ownsRow_lit (base := base) (e := 5) (size := 1) w #[.int .u8 x] 1 hb (by simp [maxLen]) (by simp)
  unfold OwB
  rw [List.map_cons, List.map_nil, hx]
  exact this
/-- the form of an owned row of bytes -/
theorem OwB.form {w : World} {base : Nat} {v : Value} {l : List UInt8} (h : OwB w base v l) : ∃ A c, v = .slice A l.length c ∧ l.length ≤ c ∧ c ≤ maxLen ∧ (∀ b, ablk A = some b → base ≤ b ∧ b < w.heap.size ∧ v.ownBlock = some b) := by
  obtain ⟨A, c, h1, h2, h3, h4, _⟩ := own_form h
  exact ⟨A, c, h1, h2, h3, h4⟩
theorem OwB.rd {w : World} {base : Nat} {A : Option Addr} {c : Nat} {l : List UInt8} (h : OwB w base (.slice A l.length c) l) : By w (fun b => ablk A = some b) A l := Rd.of_own h (fun _ hb _ => hb)
theorem By.below {w w' : World} {Z : Nat → Prop} {A : Option Addr} {l : List UInt8} (h : By w Z A l) (k : Below w.heap.size w w') : By w' Z A l := Rd.below h k
theorem By.alloc {w : World} {Z : Nat → Prop} {A : Option Addr} {l : List UInt8} (h : By w Z A l) (o : Obj) : By (w.alloc o) Z A l := Rd.alloc h o
theorem By.fr {w w' : World} {Z S : Nat → Prop} {A : Option Addr} {l : List UInt8} (h : By w Z A l) (k : Fr S w w') (hs : ∀ b, b < w.heap.size → Z b → ¬ S b) : By w' Z A l := Rd.fr h k hs
theorem By.mono {w : World} {Z Z' : Nat → Prop} {A : Option Addr} {l : List UInt8} (h : By w Z A l) (hz : ∀ b, b < w.heap.size → Z b → Z' b) : By w Z' A l := Rd.mono h hz

theorem wpList_append_by {w : World} {ops : Array Oper} {rest : List Oper} {o : Oper} {a : Act} {Q : Exit → Act → World → Prop} (hgd : o.guard = none) (s x : Operand)
    (ho : o.op = .call { callee := .builtin .append, args := #[s, x], argTypes := #[24, 24] })
    {base : Nat} {v : Value} {l m : List UInt8} {Z : Nat → Prop} {A : Option Addr} {c : Nat} (hs : a.eval s = v) (hown : OwB w base v l) (hx : a.eval x = .slice A m.length c) (hr : By w Z A m)
    (hsum : l.length + m.length ≤ 140737488355328) (hbase : base ≤ w.heap.size)
    (h : ∀ (L : List UInt8) (A' : Option Addr) (c' : Nat) (w' : World), Hid (L = l ++ m) → OwB w' base (.slice A' L.length c') L → w.grownBy w' v.ownBlock → ((Value.slice A' L.length c').ownBlock = v.ownBlock ∨ (Value.slice A' L.length c').ownBlock = some w.heap.size) → wpList Try.prog ops Q rest (a.put o.dst (.slice A' L.length c')) w') : wpList Try.prog ops Q (o :: rest) a w := by
  obtain ⟨i0, hi0, hz0, hz1, hz2⟩ := info_parts u8_info
  refine wpList_append_any w hgd s x _ ho base 5 i0 _ 1 1 Try.underlying24 hi0 hz0 hz1 hz2 rfl (by omega) v l.length (l.map bv) hs hown Z A m.length c (m.map bv) hx hr (bv_one m) (by simp only [maxLen]; omega) (by omega) hbase ?_
  intro v' w' h1 h2 h3
  have ho : OwB w' base v' (l ++ m) := by
    unfold OwB
    rw [List.length_append, List.map_append]
    exact h1
  obtain ⟨A', c', rfl, _⟩ := ho.form
  exact h (l ++ m) A' c' w' rfl ho h2 h3
theorem step_append_by {w : World} {ops : Array Oper} {o : Oper} {a : Act} {K : Act → World → Prop} {Q : Exit → Act → World → Prop} {E : Prop} (hgd : o.guard = none) (s x : Operand)
    (ho : o.op = .call { callee := .builtin .append, args := #[s, x], argTypes := #[24, 24] })
    {base : Nat} {v : Value} {l m : List UInt8} {Z : Nat → Prop} {A : Option Addr} {c : Nat} (hs : a.eval s = v) (hown : OwB w base v l) (hx : a.eval x = .slice A m.length c) (hr : By w Z A m)
    (hsum : l.length + m.length ≤ 140737488355328) (hbase : base ≤ w.heap.size)
    (h : ∀ (L : List UInt8) (A' : Option Addr) (c' : Nat) (w' : World), Hid (L = l ++ m) → OwB w' base (.slice A' L.length c') L → w.grownBy w' v.ownBlock → ((Value.slice A' L.length c').ownBlock = v.ownBlock ∨ (Value.slice A' L.length c').ownBlock = some w.heap.size) → K (a.put o.dst (.slice A' L.length c')) w') :
    if Region.wanted o (yielded ops a.tmps) = true then Oper.wp Try.prog o a w K Q else E := by
  obtain ⟨i0, hi0, hz0, hz1, hz2⟩ := info_parts u8_info
  refine step_append_any w hgd s x _ ho base 5 i0 _ 1 1 Try.underlying24 hi0 hz0 hz1 hz2 rfl (by omega) v l.length (l.map bv) hs hown Z A m.length c (m.map bv) hx hr (bv_one m) (by simp only [maxLen]; omega) (by omega) hbase ?_
  intro v' w' h1 h2 h3
  have ho : OwB w' base v' (l ++ m) := by
    unfold OwB
    rw [List.length_append, List.map_append]
    exact h1
  obtain ⟨A', c', rfl, _⟩ := ho.form
  exact h (l ++ m) A' c' w' rfl ho h2 h3

/-- string(b) -/
theorem conv_by {w : World} {Z : Nat → Prop} {A : Option Addr} {l : List UInt8} (h : By w Z A l) (c : Nat) :
    (convert 24 9 (.slice A l.length c)).run Try.prog w = .ok (.string ⟨l.toArray⟩) w := by
  rcases A with _ | a
  · have hl : l = [] := by
      rcases l with _ | ⟨x, l⟩
      · rfl
      · obtain ⟨b, off, e, _⟩ := h.2 (by simp); cases e
    subst hl
    rw [run_convert_bytes_nil w 24 5 Try.underlying24 Try.underlying5 _ _ 9 Try.underlying9]
    rfl
  · rw [run_convert_bytes_string w 24 9 5 _ _ c Try.underlying24 Try.underlying5 Try.underlying9]
    have hn : l.map bv = (l.map fun x => (x.toNat : Int)).map (Value.int .u8) := by simp [bv, Function.comp_def]
    have hload : (loadCells a l.length).run Try.prog w = .ok ((l.map fun x => (x.toNat : Int)).map (Value.int .u8)).toArray w := by
      rw [← hn]
      have := run_loadCells_list (P := Try.prog) w a (l.map bv) (fun j v hj => by
        obtain ⟨b, off, e, _, _, hc⟩ := Rd.atj h hj
        injection e with e
        subst e
        rw [add_none]
        exact hc)
      rw [List.length_map] at this
      exact this
    rw [run_bytesToString w a l.length c _ hload, foldl_push_bytes]
    congr 2
    apply ByteArray.ext
    show ByteArray.empty.data ++ _ = _
    rw [show ByteArray.empty.data = #[] from rfl]
    simp [Function.comp_def]

/-- a byte slice as a value, and what it reads as -/
structure BV where
  A : Option Addr
  c : Nat
  l : List UInt8
abbrev BV.v (x : BV) : Value := .slice x.A x.l.length x.c
def BV.ok (w : World) (Z : Nat → Prop) (x : BV) : Prop := By w Z x.A x.l ∧ x.l.length ≤ x.c ∧ x.c ≤ maxLen
theorem BV.ok.by_ {w : World} {Z : Nat → Prop} {x : BV} (h : x.ok w Z) : By w Z x.A x.l := h.1
theorem BV.ok.fr {w w' : World} {Z S : Nat → Prop} {x : BV} (h : x.ok w Z) (k : Fr S w w') (hs : ∀ b, b < w.heap.size → Z b → ¬ S b) : x.ok w' Z := ⟨h.1.fr k hs, h.2⟩
theorem BV.ok.below {w w' : World} {Z : Nat → Prop} {x : BV} (h : x.ok w Z) (k : Below w.heap.size w w') : x.ok w' Z := ⟨h.1.below k, h.2⟩
theorem BV.ok.mono {w : World} {Z Z' : Nat → Prop} {x : BV} (h : x.ok w Z) (hz : ∀ b, b < w.heap.size → Z b → Z' b) : x.ok w Z' := ⟨h.1.mono hz, h.2⟩
/-- a fresh owned row as a byte slice -/
theorem OwB.bv_ {w : World} {base : Nat} {v : Value} {l : List UInt8} (h : OwB w base v l) : ∃ x : BV, v = x.v ∧ x.l = l ∧ x.ok w (fun b => v.ownBlock = some b) ∧ OwB w base x.v l := by
  obtain ⟨A, c, rfl, h1, h2, h3⟩ := h.form
  exact ⟨⟨A, c, l⟩, rfl, rfl, ⟨h.rd.mono (fun b hb hz => (h3 b hz).2.2), h1, h2⟩, h⟩
def u64v (n : Nat) : Value := .int .u64 (n : Int)
end Go.Proofs.Ytdnljmncdbcgeaa
