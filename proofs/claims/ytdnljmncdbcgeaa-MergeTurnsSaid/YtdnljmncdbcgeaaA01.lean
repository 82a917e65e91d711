/- Texts and their parts, plain: what stands between strokes, what is a part, what is a path, how texts stand. No program. -/
import Derived.WalkKit
import Derived.Shelf.Small.Bits
import Derived.Shelf.Small.Strs
import Derived.Shelf.Strconv.Itoa0
import Derived.Shelf.Strings.Search1
import Derived.Shelf.Strings.Search2
import Derived.Shelf.Strings.Cut
import Derived.Shelf.LaysM
import Derived.Shelf.Strings.Shaped
import Derived.Shelf.Strings.LastIndex
import Derived.Shelf.Strings.Prefix
import Derived.Shelf.Slices.CompactS
import Derived.Shelf.Slices.Cells
import Derived.Shelf.Bytes.SlSearch0
import Derived.Ground.SlbCloneProg
import Derived.Shelf.Bytes.SlClone
import Derived.Ground.SlsfProg
import Derived.Shelf.SlSortCmp.Insertion
import Derived.Shelf.SlSortCmp.Insertion1
import Derived.Shelf.SlSortCmp.ReverseRange1
import Derived.Shelf.Bytes.SlEqualAll
import Derived.Ground.PaProg
import Derived.Shelf.Path.Small
import Derived.Shelf.Bytes.Small
import Derived.Test.YtdnljmncdbcgeaaProg
import Derived.Test.YtdnljmncdbcgeaaRows
import Derived.WalkSpells
import Derived.WalkLawsBesides
import Derived.ProofKit
import Derived.Lib.Hide
import Derived.Deep.QuietTactic
import Derived.BigQuiet
import Derived.Laws.BitsAllLaws
import Derived.Lib.IndexLaws
import Derived.Outline
import Derived.IntWalk
import Derived.RangeFuncNested
import Derived.RangeFuncBound
import Derived.RangeFuncCalls
import Derived.RangeFuncLeaves
import Derived.Shelf.RegionOpen
import Derived.OwnWalkIn
import Derived.TacticsInMore
import Derived.LoopNIn
import Derived.LoopIn

namespace Go.Proofs.Ytdnljmncdbcgeaa

/-- what stands between strokes -/
def cutL : List UInt8 → List (List UInt8)
  | [] => [[]]
  | c :: l => if c = 47 then [] :: cutL l else (c :: (cutL l).headD []) :: (cutL l).tail

theorem cutL_ne : ∀ l, cutL l ≠ []
  | [] => by simp [cutL]
  | c :: l => by unfold cutL; split <;> simp
theorem cutL_pos (l : List UInt8) : 0 < (cutL l).length := List.length_pos_iff.2 (cutL_ne l)
theorem cutL_none : ∀ {l : List UInt8}, (∀ c ∈ l, c ≠ 47) → cutL l = [l]
  | [], _ => rfl
  | c :: l, h => by
    rw [cutL, if_neg (h c (by simp)), cutL_none (fun x hx => h x (by simp [hx]))]
    rfl
theorem cutL_at : ∀ {i : Nat} {l : List UInt8}, (∀ c ∈ l.take i, c ≠ 47) → l[i]? = some 47 → cutL l = l.take i :: cutL (l.drop (i + 1))
  | _, [], _, h => by simp at h
  | 0, c :: l, _, h => by
    have : c = 47 := by simpa using h
    rw [cutL, if_pos this]
    rfl
  | i + 1, c :: l, h, h2 => by
    have ih := cutL_at (i := i) (l := l) (fun x hx => h x (by simp [hx])) (by simpa using h2)
    rw [cutL, if_neg (h c (by simp)), ih]
    rfl
/-- the last part and those ahead of it -/
theorem cutL_snoc : ∀ (l : List UInt8) (c : UInt8), cutL (l ++ [c]) = if c = 47 then cutL l ++ [[]] else (cutL l).dropLast ++ [(cutL l).getLastD [] ++ [c]]
  | [], c => by
    by_cases h : c = 47
    · simp [cutL, h]
    · simp [cutL, h]
  | x :: l, c => by
    have ih := cutL_snoc l c
    rw [List.cons_append, cutL, ih]
    have hn := cutL_ne l
    obtain ⟨y, ys, e⟩ := List.exists_cons_of_ne_nil hn
    by_cases h : c = 47
    · rw [if_pos h, if_pos h]
      by_cases hx : x = 47
      · rw [if_pos hx]; conv => rhs; rw [cutL, if_pos hx]
        rfl
      · rw [if_neg hx]; conv => rhs; rw [cutL, if_neg hx]
        rw [e]; rfl
    · rw [if_neg h, if_neg h]
      by_cases hx : x = 47
      · rw [if_pos hx]; conv => rhs; rw [cutL, if_pos hx]
        rw [e]
        rfl
      · rw [if_neg hx]; conv => rhs; rw [cutL, if_neg hx]
        rw [e]
        cases ys with
        | nil => rfl
        | cons z zs => rfl
/-- parts, with strokes between -/
def pasteL : List (List UInt8) → List UInt8
  | [] => []
  | [x] => x
  | x :: y :: l => x ++ 47 :: pasteL (y :: l)
theorem paste_cut : ∀ l, pasteL (cutL l) = l
  | [] => rfl
  | c :: l => by
    have ih := paste_cut l
    obtain ⟨y, ys, e⟩ := List.exists_cons_of_ne_nil (cutL_ne l)
    rw [cutL]
    rw [e] at ih ⊢
    split
    · rename_i h; subst h; rw [pasteL, ih]; rfl
    · cases ys with
      | nil => rw [List.headD_cons, List.tail_cons, pasteL]; rw [pasteL] at ih; rw [ih]
      | cons z zs => rw [List.headD_cons, List.tail_cons, pasteL, List.cons_append]; rw [pasteL] at ih; rw [ih]
theorem cut_no : ∀ l, ∀ x ∈ cutL l, ∀ c ∈ x, c ≠ 47
  | [], x, hx => by simp [cutL] at hx; subst hx; simp
  | c :: l, x, hx => by
    have ih := cut_no l
    obtain ⟨y, ys, e⟩ := List.exists_cons_of_ne_nil (cutL_ne l)
    rw [cutL] at hx
    rw [e] at ih hx
    split at hx
    · rcases List.mem_cons.1 hx with rfl | hx
      · simp
      · exact ih x hx
    · rename_i h
      rw [List.headD_cons, List.tail_cons] at hx
      rcases List.mem_cons.1 hx with rfl | hx
      · intro d hd
        rcases List.mem_cons.1 hd with rfl | hd
        · exact h
        · exact ih y (by simp) d hd
      · exact ih x (by simp [hx])
theorem cut_paste : ∀ (l : List (List UInt8)), l ≠ [] → (∀ x ∈ l, ∀ c ∈ x, c ≠ 47) → cutL (pasteL l) = l
  | [], h, _ => (h rfl).elim
  | [x], _, h => by rw [pasteL]; exact cutL_none (h x (by simp))
  | x :: y :: l, _, h => by
    rw [pasteL]
    have e := cutL_at (i := x.length) (l := x ++ 47 :: pasteL (y :: l)) (by rw [List.take_left']; exact h x (by simp); rfl) (by simp)
    rw [e, List.take_left' rfl, show List.drop (x.length + 1) (x ++ 47 :: pasteL (y :: l)) = pasteL (y :: l) by rw [← List.drop_drop, List.drop_left' rfl]; rfl]
    rw [cut_paste (y :: l) (by simp) (fun z hz => h z (by simp [hz]))]
/-- is it a part? -/
def partB (s : List UInt8) : Bool := !s.isEmpty && decide (s.length ≤ 24) && !(s == [46]) && !(s == [46, 46]) && !(s.contains 0)
/-- is it a path? -/
def goodB (p : List UInt8) : Bool := decide (p.length ≤ 96) && (cutL p).all partB && decide ((cutL p).length ≤ 6)
end Go.Proofs.Ytdnljmncdbcgeaa

/- Texts and their parts, plain: how they stand, what is under what, where one stands once another was moved. No program. -/
namespace Go.Proofs.Ytdnljmncdbcgeaa

/-- a way to compare -/
structure Ord3 {α : Type} (c : α → α → Int) : Prop where
  rng : ∀ a b, c a b = -1 ∨ c a b = 0 ∨ c a b = 1
  flip : ∀ a b, c b a = - c a b
  eq : ∀ a b, c a b = 0 ↔ a = b
  trans : ∀ a b d, c a b < 0 → c b d < 0 → c a d < 0
/-- one behind the other; what ends first stands first -/
def cmpL {α : Type} (c : α → α → Int) : List α → List α → Int
  | [], [] => 0
  | [], _ :: _ => -1
  | _ :: _, [] => 1
  | x :: l, y :: m => if c x y = 0 then cmpL c l m else c x y
theorem Ord3.list {α : Type} {c : α → α → Int} (h : Ord3 c) : Ord3 (cmpL c) where
  rng := by
    intro a
    induction a with
    | nil => intro b; cases b <;> simp [cmpL]
    | cons x l ih =>
      intro b
      cases b with
      | nil => simp [cmpL]
      | cons y m =>
        rw [cmpL]
        split
        · exact ih m
        · exact h.rng x y
  flip := by
    intro a
    induction a with
    | nil => intro b; cases b <;> simp [cmpL]
    | cons x l ih =>
      intro b
      cases b with
      | nil => simp [cmpL]
      | cons y m =>
        rw [cmpL, cmpL, h.flip x y]
        by_cases h0 : c x y = 0
        · rw [if_pos (by omega), if_pos h0]; exact ih m
        · rw [if_neg (by omega), if_neg h0]
  eq := by
    intro a
    induction a with
    | nil => intro b; cases b <;> simp [cmpL]
    | cons x l ih =>
      intro b
      cases b with
      | nil => simp [cmpL]
      | cons y m =>
        rw [cmpL]
        by_cases h0 : c x y = 0
        · rw [if_pos h0, ih m, (h.eq x y).1 h0]; simp
        · rw [if_neg h0]
          constructor
          · intro h1; exact (h0 h1).elim
          · intro h1; injection h1 with h1 _; exact (h0 ((h.eq x y).2 h1)).elim
  trans := by
    intro a
    induction a with
    | nil => intro b d h1 h2; cases b <;> cases d <;> simp [cmpL] at h1 h2 ⊢
    | cons x l ih =>
      intro b d h1 h2
      cases b with
      | nil => simp [cmpL] at h1
      | cons y m =>
        cases d with
        | nil => simp [cmpL] at h2
        | cons z k =>
          rw [cmpL] at h1 h2 ⊢
          by_cases h0 : c x y = 0
          · rw [if_pos h0] at h1
            obtain rfl := (h.eq x y).1 h0
            by_cases h3 : c x z = 0
            · rw [if_pos h3] at h2 ⊢
              exact ih m k h1 h2
            · rw [if_neg h3] at h2 ⊢
              exact h2
          · rw [if_neg h0] at h1
            by_cases h3 : c y z = 0
            · obtain rfl := (h.eq y z).1 h3
              rw [if_neg h0]
              exact h1
            · rw [if_neg h3] at h2
              have h4 := h.trans x y z h1 h2
              rw [if_neg (by omega)]
              exact h4
/-- how two bytes stand -/
def cmp1 (a b : UInt8) : Int := if a.toNat < b.toNat then -1 else if b.toNat < a.toNat then 1 else 0
theorem ord1 : Ord3 cmp1 where
  rng a b := by unfold cmp1; split; · simp
                split <;> simp
  flip a b := by unfold cmp1; split <;> split <;> first | omega | rfl | (split <;> omega)
  eq a b := by
    unfold cmp1
    constructor
    · intro h
      split at h
      · omega
      · split at h
        · omega
        · exact UInt8.toNat_inj.1 (by omega)
    · rintro rfl; simp
  trans a b d h1 h2 := by
    unfold cmp1 at *
    split at h1
    · split at h2
      · rw [if_pos (by omega)]; omega
      · split at h2 <;> omega
    · split at h1 <;> omega
/-- how two parts stand -/
def cmpB : List UInt8 → List UInt8 → Int := cmpL cmp1
/-- how two rows of parts stand -/
def cmpP : List (List UInt8) → List (List UInt8) → Int := cmpL cmpB
theorem ordB : Ord3 cmpB := ord1.list
theorem ordP : Ord3 cmpP := ordB.list
theorem cmpB_self (x : List UInt8) : cmpB x x = 0 := (ordB.eq x x).2 rfl
/-- a row stands ahead of a longer one -/
theorem cmpP_app : ∀ (A : List (List UInt8)) {R : List (List UInt8)}, R ≠ [] → cmpP A (A ++ R) = -1
  | [], R, h => by obtain ⟨y, ys, rfl⟩ := List.exists_cons_of_ne_nil h; rfl
  | x :: A, R, h => by
    unfold cmpP
    rw [List.cons_append, cmpL, if_pos (cmpB_self x)]
    exact cmpP_app A h
/-- what stands between a row and a longer one is longer, too -/
theorem cmpP_mid : ∀ (A B R : List (List UInt8)), cmpP A B < 0 → cmpP B (A ++ R) < 0 → ∃ T, T ≠ [] ∧ B = A ++ T
  | [], B, R, h, _ => by
    cases B with
    | nil => simp [cmpP, cmpL] at h
    | cons y B => exact ⟨y :: B, by simp, rfl⟩
  | x :: A, B, R, h, h2 => by
    cases B with
    | nil => simp [cmpP, cmpL] at h
    | cons y B =>
      unfold cmpP at h h2
      rw [List.cons_append] at h2
      rw [cmpL] at h h2
      by_cases h0 : cmpB x y = 0
      · obtain rfl := (ordB.eq x y).1 h0
        rw [if_pos h0] at h h2
        obtain ⟨T, hT, rfl⟩ := cmpP_mid A B R h h2
        exact ⟨T, hT, rfl⟩
      · have h3 := ordB.flip x y
        rw [if_neg h0] at h
        rw [if_neg (by omega)] at h2
        omega
/-- how two texts stand -/
def cmpT (a b : List UInt8) : Int := cmpP (cutL a) (cutL b)
theorem cutL_inj {a b : List UInt8} (h : cutL a = cutL b) : a = b := by rw [← paste_cut a, h, paste_cut]
theorem cmpT_eq (a b : List UInt8) : cmpT a b = 0 ↔ a = b := (ordP.eq _ _).trans ⟨cutL_inj, fun h => by rw [h]⟩

theorem cut_app : ∀ (a q : List UInt8), cutL (a ++ 47 :: q) = cutL a ++ cutL q
  | [], q => by simp [cutL]
  | c :: a, q => by
    have ih := cut_app a q
    obtain ⟨y, ys, e⟩ := List.exists_cons_of_ne_nil (cutL_ne a)
    rw [List.cons_append, cutL, cutL, ih, e]
    split <;> rfl
theorem paste_app : ∀ (A R : List (List UInt8)), A ≠ [] → R ≠ [] → pasteL (A ++ R) = pasteL A ++ 47 :: pasteL R
  | [], _, h, _ => (h rfl).elim
  | [x], R, _, h => by obtain ⟨y, ys, rfl⟩ := List.exists_cons_of_ne_nil h; rfl
  | x :: y :: A, R, _, h => by
    have ih := paste_app (y :: A) R (by simp) h
    rw [List.cons_append, List.cons_append, pasteL, pasteL, ← List.cons_append, ih]
    simp
/-- is it under another one, by its bytes? -/
def preB (p top : List UInt8) : Bool := (top ++ [47]).isPrefixOf p
theorem preB_iff (p top : List UInt8) : preB p top = true ↔ ∃ T, T ≠ [] ∧ cutL p = cutL top ++ T := by
  unfold preB
  rw [List.isPrefixOf_iff_prefix]
  constructor
  · rintro ⟨q, rfl⟩
    refine ⟨cutL q, cutL_ne q, ?_⟩
    rw [List.append_assoc]
    exact cut_app top q
  · rintro ⟨T, hT, h⟩
    refine ⟨pasteL T, ?_⟩
    rw [← paste_cut p, h, paste_app _ _ (cutL_ne top) hT, paste_cut, List.append_assoc]
    rfl
/-- is it under another one? -/
def underB (p top : List UInt8) : Bool := goodB p && goodB top && preB p top
theorem all_pre {A T : List (List UInt8)} (h : (A ++ T).all partB = true) : A.all partB = true := by
  rw [List.all_append] at h
  simp only [Bool.and_eq_true] at h
  exact h.1
/-- a path's beginnings are paths -/
theorem good_pre {p top : List UInt8} (hp : goodB p = true) (h : preB p top = true) : goodB top = true := by
  obtain ⟨T, hT, e⟩ := (preB_iff p top).1 h
  have hl : top.length ≤ p.length := by
    unfold preB at h
    have := List.IsPrefix.length_le (List.isPrefixOf_iff_prefix.1 h)
    simp at this
    omega
  unfold goodB at *
  rw [e] at hp
  simp only [Bool.and_eq_true, decide_eq_true_eq] at hp ⊢
  refine ⟨⟨by omega, all_pre hp.1.2⟩, ?_⟩
  have := hp.2
  rw [List.length_append] at this
  omega
/-- the order's law on what is under a path -/
theorem under_order {a b c : List UInt8} (h : underB c a = true) : cmpT a c = -1 ∧ (cmpT a b < 0 → cmpT b c < 0 → goodB b = true → underB b a = true) := by
  unfold underB at h
  simp only [Bool.and_eq_true] at h
  obtain ⟨⟨_, ha⟩, hp⟩ := h
  obtain ⟨T, hT, e⟩ := (preB_iff c a).1 hp
  refine ⟨by unfold cmpT; rw [e]; exact cmpP_app _ hT, fun h1 h2 hb => ?_⟩
  unfold cmpT at h1 h2
  rw [e] at h2
  obtain ⟨U, hU, e2⟩ := cmpP_mid _ _ _ h1 h2
  unfold underB
  rw [hb, ha, (preB_iff b a).2 ⟨U, hU, e2⟩]
  rfl
end Go.Proofs.Ytdnljmncdbcgeaa

/-
  DERIVED: THE SHELF's CONTRACTS AT THIS DUMP, IN PLAIN WORDS (tools/lay-plain.mjs out of 'TryShelf.lean', which tools/lay-shelf.mjs wrote): THE SAME DECLARATIONS UNDER THE SAME NAMES: 'import', 'namespace', 'open', 'def', 'theorem' AND NOTHING ELSE: no command of the shelf's: FOR A HAND-IN. Each laying: the table of numbers ('.._ren') and one theorem, a field a fact of the dump's own or the kernel's comparison; each contract: ONE APPLICATION.
-/
namespace Go.Proofs
open Go.Shelf
def Try.lays128_ren : Go.Shelf.Ren := ⟨fun | 128 => 158 | n => n, fun | 51 => 222 | 3 => 3 | 4 => 4 | 46 => 191 | 5 => 5 | 9 => 9 | n => n, fun | n => n⟩
theorem Try.lays128 : Go.Proofs.Lays.n128 Try.prog Try.lays128_ren := {
  mixed := by kernel_rfl
  f128 := Try.func158.trans (congrArg some (by kernel_rfl))
  t3 := Try.underlying3
  a3 := Try.isAgg3
  z3 := Try.sizeOf3
  v3 := Try.zeroValue3
  t4 := Try.underlying4
  a4 := Try.isAgg4
  z4 := Try.sizeOf4
  v4 := Try.zeroValue4
  t5 := Try.underlying5
  a5 := Try.isAgg5
  z5 := Try.sizeOf5
  v5 := Try.zeroValue5
  t9 := Try.underlying9
  a9 := Try.isAgg9
  z9 := Try.sizeOf9
  v9 := Try.zeroValue9
  t46 := Try.underlying191
  a46 := Try.isAgg191
  z46 := Try.sizeOf191
  v46 := Try.zeroValue191
  t51 := Try.underlying222
  a51 := Try.isAgg222
  z51 := Try.sizeOf222
  v51 := Try.zeroValue222 }
/-- bits.Len32: "Len32 returns the minimum number of bits required to represent x; the result is 0 for x == 0.": IT RETURNS 'Lib.bitLen x'; the world is as it was. ('h0', 'h1': x is a uint32.) (LAID: no walk: one application.) -/
theorem Try.bits_Len32 (x : Int) (w : World) (h0 : 0 ≤ x) (h1 : x ≤ 4294967295) :
    Calls Try.prog 158 #[.int .u32 x] w fun e w' => e = .returned (.int .i64 (Lib.bitLen x.toNat)) ∧ w' = w := Any.bits_Len32 Try.lays128 x w h0 h1
def Try.lays125_ren : Go.Shelf.Ren := ⟨fun | 125 => 124 | 128 => 158 | 129 => 159 | n => n, fun | 46 => 191 | 3 => 3 | 51 => 222 | 53 => 23 | 4 => 4 | 5 => 5 | 9 => 9 | n => n, fun | n => n⟩
theorem Try.lays125 : Go.Proofs.Lays.n125 Try.prog Try.lays125_ren := {
  mixed := by kernel_rfl
  f125 := Try.func124.trans (congrArg some (by kernel_rfl))
  f128 := Try.func158.trans (congrArg some (by kernel_rfl))
  f129 := Try.func159.trans (congrArg some (by kernel_rfl))
  t3 := Try.underlying3
  a3 := Try.isAgg3
  z3 := Try.sizeOf3
  v3 := Try.zeroValue3
  t4 := Try.underlying4
  a4 := Try.isAgg4
  z4 := Try.sizeOf4
  v4 := Try.zeroValue4
  t5 := Try.underlying5
  a5 := Try.isAgg5
  z5 := Try.sizeOf5
  v5 := Try.zeroValue5
  t9 := Try.underlying9
  a9 := Try.isAgg9
  z9 := Try.sizeOf9
  v9 := Try.zeroValue9
  t46 := Try.underlying191
  a46 := Try.isAgg191
  z46 := Try.sizeOf191
  v46 := Try.zeroValue191
  t51 := Try.underlying222
  a51 := Try.isAgg222
  z51 := Try.sizeOf222
  v51 := Try.zeroValue222
  t53 := Try.underlying23
  a53 := Try.isAgg23
  z53 := Try.sizeOf23
  v53 := Try.zeroValue23 }
/-- bits.Len: "Len returns the minimum number of bits required to represent x; the result is 0 for x == 0.": IT RETURNS 'Lib.bitLen x'; the world is as it was. (A uint has 64 bits in the model.) ITS CALLEE bits.Len64 IS MET BY ITS OWN CONTRACT OFF THE SHELF (lay that first). (LAID: no walk: one application.) -/
theorem Try.bits_Len (x : Int) (w : World) (h0 : 0 ≤ x) (h1 : x ≤ 18446744073709551615) :
    Calls Try.prog 124 #[.int .u64 x] w fun e w' => e = .returned (.int .i64 (Lib.bitLen x.toNat)) ∧ w' = w := Any.bits_Len Try.lays125 x w h0 h1
def Try.lays137_ren : Go.Shelf.Ren := ⟨fun | 137 => 182 | 217 => 183 | 266 => 190 | n => n, fun | 9 => 9 | 5 => 5 | 3 => 3 | n => n, fun | n => n⟩
theorem Try.lays137 : Go.Proofs.Lays.n137 Try.prog Try.lays137_ren := {
  mixed := by kernel_rfl
  f137 := Try.func182.trans (congrArg some (by kernel_rfl))
  f217 := Try.func183.trans (congrArg some (by kernel_rfl))
  f266 := Try.func190.trans (congrArg some (by kernel_rfl))
  t3 := Try.underlying3
  a3 := Try.isAgg3
  z3 := Try.sizeOf3
  v3 := Try.zeroValue3
  t5 := Try.underlying5
  a5 := Try.isAgg5
  z5 := Try.sizeOf5
  v5 := Try.zeroValue5
  t9 := Try.underlying9
  a9 := Try.isAgg9
  z9 := Try.sizeOf9
  v9 := Try.zeroValue9 }
open Go.RowKit in
/-- strings.IndexByte: "IndexByte returns the index of the first instance of c in s, or -1 if c is not present in s.": IT RETURNS 'Lib.indexByte s c'; the world is as it was. (LAID: no walk: one application.) -/
theorem Try.strings_IndexByte (s : ByteArray) (c : Int) (w : World) :
    Calls Try.prog 182 #[.string s, .int .u8 c] w fun e w' => e = .returned (.int .i64 (Lib.indexByte s.data.toList c.toNat.toUInt8)) ∧ w' = w := Any.strings_IndexByte Try.lays137 s c w
def Try.lays129_ren : Go.Shelf.Ren := ⟨fun | 129 => 159 | n => n, fun | 53 => 23 | 3 => 3 | 4 => 4 | 46 => 191 | 5 => 5 | 9 => 9 | n => n, fun | n => n⟩
theorem Try.lays129 : Go.Proofs.Lays.n129 Try.prog Try.lays129_ren := {
  mixed := by kernel_rfl
  f129 := Try.func159.trans (congrArg some (by kernel_rfl))
  t3 := Try.underlying3
  a3 := Try.isAgg3
  z3 := Try.sizeOf3
  v3 := Try.zeroValue3
  t4 := Try.underlying4
  a4 := Try.isAgg4
  z4 := Try.sizeOf4
  v4 := Try.zeroValue4
  t5 := Try.underlying5
  a5 := Try.isAgg5
  z5 := Try.sizeOf5
  v5 := Try.zeroValue5
  t9 := Try.underlying9
  a9 := Try.isAgg9
  z9 := Try.sizeOf9
  v9 := Try.zeroValue9
  t46 := Try.underlying191
  a46 := Try.isAgg191
  z46 := Try.sizeOf191
  v46 := Try.zeroValue191
  t53 := Try.underlying23
  a53 := Try.isAgg23
  z53 := Try.sizeOf23
  v53 := Try.zeroValue23 }
/-- bits.Len64: "Len64 returns the minimum number of bits required to represent x; the result is 0 for x == 0.": IT RETURNS 'Lib.bitLen x'; the world is as it was. ('h0', 'h1': x is a uint64.) (LAID: no walk: one application.) -/
theorem Try.bits_Len64 (x : Int) (w : World) (h0 : 0 ≤ x) (h1 : x ≤ 18446744073709551615) :
    Calls Try.prog 159 #[.int .u64 x] w fun e w' => e = .returned (.int .i64 (Lib.bitLen x.toNat)) ∧ w' = w := Any.bits_Len64 Try.lays129 x w h0 h1
def Try.lays217_ren : Go.Shelf.Ren := ⟨fun | 217 => 183 | 266 => 190 | n => n, fun | 9 => 9 | 5 => 5 | 3 => 3 | n => n, fun | n => n⟩
theorem Try.lays217 : Go.Proofs.Lays.n217 Try.prog Try.lays217_ren := {
  mixed := by kernel_rfl
  f217 := Try.func183.trans (congrArg some (by kernel_rfl))
  f266 := Try.func190.trans (congrArg some (by kernel_rfl))
  t3 := Try.underlying3
  a3 := Try.isAgg3
  z3 := Try.sizeOf3
  v3 := Try.zeroValue3
  t5 := Try.underlying5
  a5 := Try.isAgg5
  z5 := Try.sizeOf5
  v5 := Try.zeroValue5
  t9 := Try.underlying9
  a9 := Try.isAgg9
  z9 := Try.sizeOf9
  v9 := Try.zeroValue9 }
open Go.RowKit Go.Lib in
/-- internal/stringslite.IndexByte (what strings.IndexByte calls): IT RETURNS 'Lib.indexByte s c'; the world is as it was. (LAID: no walk: one application.) -/
theorem Try.stringslite_IndexByte (s : ByteArray) (c : Int) (w : World) :
    Calls Try.prog 183 #[.string s, .int .u8 c] w fun e w' => e = .returned (.int .i64 (Lib.indexByte s.data.toList c.toNat.toUInt8)) ∧ w' = w := Any.stringslite_IndexByte Try.lays217 s c w
def Try.lays224_ren : Go.Shelf.Ren := ⟨fun | 224 => 185 | n => n, fun | 3 => 3 | n => n, fun | n => n⟩
theorem Try.lays224 : Go.Proofs.Lays.n224 Try.prog Try.lays224_ren := {
  mixed := by kernel_rfl
  f224 := Try.func185.trans (congrArg some (by kernel_rfl))
  t3 := Try.underlying3
  a3 := Try.isAgg3
  z3 := Try.sizeOf3
  v3 := Try.zeroValue3 }
open Go.RowKit Go.Lib in
/-- internal/bytealg.Cutover: "Cutover reports the number of failures of IndexByte we should tolerate before switching over to Index. n is the number of bytes processed so far.": on amd64: (n + 16) / 8. (LAID: no walk: one application.) -/
theorem Try.bytealg_Cutover (n : Int) (h0 : 0 ≤ n) (h1 : n < 4611686018427387904) (w : World) :
    Calls Try.prog 185 #[.int .i64 n] w fun e w' => e = .returned (.int .i64 ((n + 16) / 8)) ∧ w' = w := Any.bytealg_Cutover Try.lays224 n h0 h1 w
def Try.lays314_ren : Go.Shelf.Ren := ⟨fun | 314 => 191 | n => n, fun | 9 => 9 | 51 => 222 | 3 => 3 | 4 => 4 | 5 => 5 | 46 => 191 | n => n, fun | n => n⟩
theorem Try.lays314 : Go.Proofs.Lays.n314 Try.prog Try.lays314_ren := {
  mixed := by kernel_rfl
  f314 := Try.func191.trans (congrArg some (by kernel_rfl))
  t3 := Try.underlying3
  a3 := Try.isAgg3
  z3 := Try.sizeOf3
  v3 := Try.zeroValue3
  t4 := Try.underlying4
  a4 := Try.isAgg4
  z4 := Try.sizeOf4
  v4 := Try.zeroValue4
  t5 := Try.underlying5
  a5 := Try.isAgg5
  z5 := Try.sizeOf5
  v5 := Try.zeroValue5
  t9 := Try.underlying9
  a9 := Try.isAgg9
  z9 := Try.sizeOf9
  v9 := Try.zeroValue9
  t46 := Try.underlying191
  a46 := Try.isAgg191
  z46 := Try.sizeOf191
  v46 := Try.zeroValue191
  t51 := Try.underlying222
  a51 := Try.isAgg222
  z51 := Try.sizeOf222
  v51 := Try.zeroValue222 }
open Go.RowKit Go.Lib in
/-- hashStr: "returns the hash and the appropriate multiplicative factor for use in Rabin-Karp algorithm": THE HASH OF ALL OF sep, AND 16777619 ^ len(sep), both in uint32. (LAID: no walk: one application.) -/
theorem Try.bytealg_hashStr (sep : ByteArray) (hs : sep.size < 4294967281) (w : World) :
    Calls Try.prog 191 #[.string sep] w fun e w' => e = .returned (.tuple #[.int .u32 (RK.H sep.data.toList % 4294967296), .int .u32 (16777619 ^ sep.size % 4294967296)]) ∧ w' = w := Any.bytealg_hashStr Try.lays314 sep hs w
def Try.lays267_ren : Go.Shelf.Ren := ⟨fun | 267 => 186 | 314 => 191 | n => n, fun | 9 => 9 | 3 => 3 | 146 => 240 | 51 => 222 | 4 => 4 | 5 => 5 | 46 => 191 | n => n, fun | n => n⟩
theorem Try.lays267 : Go.Proofs.Lays.n267 Try.prog Try.lays267_ren := {
  mixed := by kernel_rfl
  f267 := Try.func186.trans (congrArg some (by kernel_rfl))
  f314 := Try.func191.trans (congrArg some (by kernel_rfl))
  t3 := Try.underlying3
  a3 := Try.isAgg3
  z3 := Try.sizeOf3
  v3 := Try.zeroValue3
  t4 := Try.underlying4
  a4 := Try.isAgg4
  z4 := Try.sizeOf4
  v4 := Try.zeroValue4
  t5 := Try.underlying5
  a5 := Try.isAgg5
  z5 := Try.sizeOf5
  v5 := Try.zeroValue5
  t9 := Try.underlying9
  a9 := Try.isAgg9
  z9 := Try.sizeOf9
  v9 := Try.zeroValue9
  t46 := Try.underlying191
  a46 := Try.isAgg191
  z46 := Try.sizeOf191
  v46 := Try.zeroValue191
  t51 := Try.underlying222
  a51 := Try.isAgg222
  z51 := Try.sizeOf222
  v51 := Try.zeroValue222
  t146 := Try.underlying240
  a146 := Try.isAgg240
  z146 := Try.sizeOf240
  v146 := Try.zeroValue240 }
open Go.RowKit Go.Lib in
theorem Try.bytealg_IndexRabinKarp (s sep : ByteArray) (h1 : 1 ≤ sep.size) (h2 : sep.size ≤ s.size) (hs : s.size < 4294967281) (w : World) :
    Calls Try.prog 186 #[.string s, .string sep] w fun e w' => e = .returned (.int .i64 (Lib.index s.data.toList sep.data.toList)) ∧ w' = w := Any.bytealg_IndexRabinKarp Try.lays267 s sep h1 h2 hs w
def Try.lays219_ren : Go.Shelf.Ren := ⟨fun | 219 => 172 | 217 => 183 | 225 => 184 | 224 => 185 | 267 => 186 | 266 => 190 | 314 => 191 | n => n, fun | 9 => 9 | 3 => 3 | 4 => 4 | 5 => 5 | 46 => 191 | 146 => 240 | 51 => 222 | n => n, fun | 1 => 0 | n => n⟩
theorem Try.lays219 : Go.Proofs.Lays.n219 Try.prog Try.lays219_ren := {
  mixed := by kernel_rfl
  f217 := Try.func183.trans (congrArg some (by kernel_rfl))
  f219 := Try.func172.trans (congrArg some (by kernel_rfl))
  f224 := Try.func185.trans (congrArg some (by kernel_rfl))
  f225 := Try.func184.trans (congrArg some (by kernel_rfl))
  f266 := Try.func190.trans (congrArg some (by kernel_rfl))
  f267 := Try.func186.trans (congrArg some (by kernel_rfl))
  f314 := Try.func191.trans (congrArg some (by kernel_rfl))
  t3 := Try.underlying3
  a3 := Try.isAgg3
  z3 := Try.sizeOf3
  v3 := Try.zeroValue3
  t4 := Try.underlying4
  a4 := Try.isAgg4
  z4 := Try.sizeOf4
  v4 := Try.zeroValue4
  t5 := Try.underlying5
  a5 := Try.isAgg5
  z5 := Try.sizeOf5
  v5 := Try.zeroValue5
  t9 := Try.underlying9
  a9 := Try.isAgg9
  z9 := Try.sizeOf9
  v9 := Try.zeroValue9
  t46 := Try.underlying191
  a46 := Try.isAgg191
  z46 := Try.sizeOf191
  v46 := Try.zeroValue191
  t51 := Try.underlying222
  a51 := Try.isAgg222
  z51 := Try.sizeOf222
  v51 := Try.zeroValue222
  t146 := Try.underlying240
  a146 := Try.isAgg240
  z146 := Try.sizeOf240
  v146 := Try.zeroValue240
  g1 := by kernel_rfl }
open Go.RowKit Go.Lib in
/-- internal/stringslite.Index (what strings.Index calls) AT A substr OF ONE BYTE c: IT RETURNS 'Lib.indexByte s c'; the world is as it was. (LAID: no walk: one application.) -/
theorem Try.stringslite_Index_one (s : ByteArray) (c : UInt8) (w : World) :
    Calls Try.prog 172 #[.string s, .string ⟨#[c]⟩] w fun e w' => e = .returned (.int .i64 (Lib.indexByte s.data.toList c)) ∧ w' = w := Any.stringslite_Index_one Try.lays219 s c w
open Go.RowKit Go.Lib in
/-- internal/stringslite.Index (what strings.Index calls) AT A substr OF WHATEVER LENGTH: IT RETURNS 'Lib.index s substr'; the world is as it was. 'm': what internal/bytealg.MaxLen holds: whatever. (LAID: no walk: one application.) -/
theorem Try.stringslite_Index (s sub : ByteArray) (m : Int) (w : World) (hs : s.size < 4294967281) (hm : w.cell? ⟨0, 0, none⟩ = some (.int .i64 m)) :
    Calls Try.prog 172 #[.string s, .string sub] w fun e w' => e = .returned (.int .i64 (Lib.index s.data.toList sub.data.toList)) ∧ w' = w := Any.stringslite_Index Try.lays219 s sub m w hs hm
def Try.lays220_ren : Go.Shelf.Ren := ⟨fun | 220 => 147 | 219 => 172 | 217 => 183 | 225 => 184 | 224 => 185 | 267 => 186 | 266 => 190 | 314 => 191 | n => n, fun | 9 => 9 | 4 => 4 | 3 => 3 | 5 => 5 | 46 => 191 | 146 => 240 | 51 => 222 | n => n, fun | 1 => 0 | n => n⟩
theorem Try.lays220 : Go.Proofs.Lays.n220 Try.prog Try.lays220_ren := {
  mixed := by kernel_rfl
  f217 := Try.func183.trans (congrArg some (by kernel_rfl))
  f219 := Try.func172.trans (congrArg some (by kernel_rfl))
  f220 := Try.func147.trans (congrArg some (by kernel_rfl))
  f224 := Try.func185.trans (congrArg some (by kernel_rfl))
  f225 := Try.func184.trans (congrArg some (by kernel_rfl))
  f266 := Try.func190.trans (congrArg some (by kernel_rfl))
  f267 := Try.func186.trans (congrArg some (by kernel_rfl))
  f314 := Try.func191.trans (congrArg some (by kernel_rfl))
  t3 := Try.underlying3
  a3 := Try.isAgg3
  z3 := Try.sizeOf3
  v3 := Try.zeroValue3
  t4 := Try.underlying4
  a4 := Try.isAgg4
  z4 := Try.sizeOf4
  v4 := Try.zeroValue4
  t5 := Try.underlying5
  a5 := Try.isAgg5
  z5 := Try.sizeOf5
  v5 := Try.zeroValue5
  t9 := Try.underlying9
  a9 := Try.isAgg9
  z9 := Try.sizeOf9
  v9 := Try.zeroValue9
  t46 := Try.underlying191
  a46 := Try.isAgg191
  z46 := Try.sizeOf191
  v46 := Try.zeroValue191
  t51 := Try.underlying222
  a51 := Try.isAgg222
  z51 := Try.sizeOf222
  v51 := Try.zeroValue222
  t146 := Try.underlying240
  a146 := Try.isAgg240
  z146 := Try.sizeOf240
  v146 := Try.zeroValue240
  g1 := by kernel_rfl }
open Go.RowKit Go.Lib in
/-- internal/stringslite.Cut (what strings.Cut calls): IT RETURNS 'Lib.cut s sep'; the world is as it was but for the count of draws. (LAID: no walk: one application.) -/
theorem Try.stringslite_Cut (s sep : ByteArray) (m : Int) (w : World) (hs : s.size < 4294967281) (hm : w.cell? ⟨0, 0, none⟩ = some (.int .i64 m)) :
    Calls Try.prog 147 #[.string s, .string sep] w fun e w' => e = .returned (.tuple #[.string ⟨(Lib.cut s.data.toList sep.data.toList).1.toArray⟩, .string ⟨(Lib.cut s.data.toList sep.data.toList).2.1.toArray⟩, .bool (Lib.cut s.data.toList sep.data.toList).2.2]) ∧ ∃ n, w' = w.drewN n := Any.stringslite_Cut Try.lays220 s sep m w hs hm
def Try.lays145_ren : Go.Shelf.Ren := ⟨fun | 145 => 111 | 220 => 147 | 219 => 172 | 217 => 183 | 225 => 184 | 224 => 185 | 267 => 186 | 266 => 190 | 314 => 191 | n => n, fun | 9 => 9 | 4 => 4 | 59 => 180 | 3 => 3 | 5 => 5 | 46 => 191 | 146 => 240 | 51 => 222 | n => n, fun | 1 => 0 | n => n⟩
theorem Try.lays145 : Go.Proofs.Lays.n145 Try.prog Try.lays145_ren := {
  mixed := by kernel_rfl
  f145 := Try.func111.trans (congrArg some (by kernel_rfl))
  f217 := Try.func183.trans (congrArg some (by kernel_rfl))
  f219 := Try.func172.trans (congrArg some (by kernel_rfl))
  f220 := Try.func147.trans (congrArg some (by kernel_rfl))
  f224 := Try.func185.trans (congrArg some (by kernel_rfl))
  f225 := Try.func184.trans (congrArg some (by kernel_rfl))
  f266 := Try.func190.trans (congrArg some (by kernel_rfl))
  f267 := Try.func186.trans (congrArg some (by kernel_rfl))
  f314 := Try.func191.trans (congrArg some (by kernel_rfl))
  t3 := Try.underlying3
  a3 := Try.isAgg3
  z3 := Try.sizeOf3
  v3 := Try.zeroValue3
  t4 := Try.underlying4
  a4 := Try.isAgg4
  z4 := Try.sizeOf4
  v4 := Try.zeroValue4
  t5 := Try.underlying5
  a5 := Try.isAgg5
  z5 := Try.sizeOf5
  v5 := Try.zeroValue5
  t9 := Try.underlying9
  a9 := Try.isAgg9
  z9 := Try.sizeOf9
  v9 := Try.zeroValue9
  t46 := Try.underlying191
  a46 := Try.isAgg191
  z46 := Try.sizeOf191
  v46 := Try.zeroValue191
  t51 := Try.underlying222
  a51 := Try.isAgg222
  z51 := Try.sizeOf222
  v51 := Try.zeroValue222
  t59 := Try.underlying180
  a59 := Try.isAgg180
  z59 := Try.sizeOf180
  v59 := Try.zeroValue180
  t146 := Try.underlying240
  a146 := Try.isAgg240
  z146 := Try.sizeOf240
  v146 := Try.zeroValue240
  g1 := by kernel_rfl }
open Go.RowKit Go.Lib in
/-- strings.Cut: "Cut slices s around the first instance of sep, returning the text before and after sep. The found result reports whether sep appears in s. If sep does not appear in s, cut returns s, "", false.": IT RETURNS 'Lib.cut s sep'; the world is as it was but for the count of draws. (LAID: no walk: one application.) -/
theorem Try.strings_Cut (s sep : ByteArray) (m : Int) (w : World) (hs : s.size < 4294967281) (hm : w.cell? ⟨0, 0, none⟩ = some (.int .i64 m)) :
    Calls Try.prog 111 #[.string s, .string sep] w fun e w' => e = .returned (.tuple #[.string ⟨(Lib.cut s.data.toList sep.data.toList).1.toArray⟩, .string ⟨(Lib.cut s.data.toList sep.data.toList).2.1.toArray⟩, .bool (Lib.cut s.data.toList sep.data.toList).2.2]) ∧ ∃ n, w' = w.drewN n := Any.strings_Cut Try.lays145 s sep m w hs hm
def Try.laysM219_ren : Go.Shelf.Ren := ⟨fun | 219 => 172 | 217 => 183 | 225 => 184 | 224 => 185 | 267 => 186 | 266 => 190 | 314 => 191 | n => n, fun | 9 => 9 | 3 => 3 | 4 => 4 | 5 => 5 | 46 => 191 | 146 => 240 | 51 => 222 | n => n, fun | 1 => 0 | n => n⟩
theorem Try.laysM219 : Go.Proofs.LaysM.n219 Try.prog Try.laysM219_ren := {
  mixed := by kernel_rfl
  f217 := Try.func183.trans (congrArg some (by kernel_rfl))
  f219 := Try.func172.trans (congrArg some (by kernel_rfl))
  f224 := Try.func185.trans (congrArg some (by kernel_rfl))
  f225 := Try.func184.trans (congrArg some (by kernel_rfl))
  f266 := Try.func190.trans (congrArg some (by kernel_rfl))
  f267 := Try.func186.trans (congrArg some (by kernel_rfl))
  f314 := Try.func191.trans (congrArg some (by kernel_rfl))
  t3 := Try.underlying3
  a3 := Try.isAgg3
  z3 := Try.sizeOf3
  v3 := Try.zeroValue3
  t4 := Try.underlying4
  a4 := Try.isAgg4
  z4 := Try.sizeOf4
  v4 := Try.zeroValue4
  t5 := Try.underlying5
  a5 := Try.isAgg5
  z5 := Try.sizeOf5
  v5 := Try.zeroValue5
  t9 := Try.underlying9
  a9 := Try.isAgg9
  z9 := Try.sizeOf9
  v9 := Try.zeroValue9
  t46 := Try.underlying191
  a46 := Try.isAgg191
  z46 := Try.sizeOf191
  v46 := Try.zeroValue191
  t51 := Try.underlying222
  a51 := Try.isAgg222
  z51 := Try.sizeOf222
  v51 := Try.zeroValue222
  t146 := Try.underlying240
  a146 := Try.isAgg240
  z146 := Try.sizeOf240
  v146 := Try.zeroValue240
  g1 := by kernel_rfl
  i3 := by kernel_rfl
  i4 := by kernel_rfl
  i5 := by kernel_rfl
  i9 := by kernel_rfl
  i46 := by kernel_rfl
  i51 := by kernel_rfl
  i146 := by kernel_rfl
  m1 := by kernel_rfl
  s1_3 := fun w h => Go.Proofs.cell_of_shapedOpen_int (zero := #[.int .i64 0]) (t := 3) h (of_decide_eq_true (by kernel_rfl)) (by kernel_rfl) rfl (by kernel_rfl) (by kernel_rfl) Try.underlying3 }
open Go.RowKit Go.Lib in
theorem Try.stringslite_Index_shaped (s sub : ByteArray) (w : World) (h : w.ShapedOpen Try.prog) (hs : s.size < 4294967281) :
    Calls Try.prog 172 #[.string s, .string sub] w fun e w' => e = .returned (.int .i64 (Lib.index s.data.toList sub.data.toList)) ∧ w' = w := Any.stringslite_Index_shaped Try.laysM219 s sub w h hs
def Try.laysM220_ren : Go.Shelf.Ren := ⟨fun | 220 => 147 | 219 => 172 | 217 => 183 | 225 => 184 | 224 => 185 | 267 => 186 | 266 => 190 | 314 => 191 | n => n, fun | 9 => 9 | 4 => 4 | 3 => 3 | 5 => 5 | 46 => 191 | 146 => 240 | 51 => 222 | n => n, fun | 1 => 0 | n => n⟩
theorem Try.laysM220 : Go.Proofs.LaysM.n220 Try.prog Try.laysM220_ren := {
  mixed := by kernel_rfl
  f217 := Try.func183.trans (congrArg some (by kernel_rfl))
  f219 := Try.func172.trans (congrArg some (by kernel_rfl))
  f220 := Try.func147.trans (congrArg some (by kernel_rfl))
  f224 := Try.func185.trans (congrArg some (by kernel_rfl))
  f225 := Try.func184.trans (congrArg some (by kernel_rfl))
  f266 := Try.func190.trans (congrArg some (by kernel_rfl))
  f267 := Try.func186.trans (congrArg some (by kernel_rfl))
  f314 := Try.func191.trans (congrArg some (by kernel_rfl))
  t3 := Try.underlying3
  a3 := Try.isAgg3
  z3 := Try.sizeOf3
  v3 := Try.zeroValue3
  t4 := Try.underlying4
  a4 := Try.isAgg4
  z4 := Try.sizeOf4
  v4 := Try.zeroValue4
  t5 := Try.underlying5
  a5 := Try.isAgg5
  z5 := Try.sizeOf5
  v5 := Try.zeroValue5
  t9 := Try.underlying9
  a9 := Try.isAgg9
  z9 := Try.sizeOf9
  v9 := Try.zeroValue9
  t46 := Try.underlying191
  a46 := Try.isAgg191
  z46 := Try.sizeOf191
  v46 := Try.zeroValue191
  t51 := Try.underlying222
  a51 := Try.isAgg222
  z51 := Try.sizeOf222
  v51 := Try.zeroValue222
  t146 := Try.underlying240
  a146 := Try.isAgg240
  z146 := Try.sizeOf240
  v146 := Try.zeroValue240
  g1 := by kernel_rfl
  i3 := by kernel_rfl
  i4 := by kernel_rfl
  i5 := by kernel_rfl
  i9 := by kernel_rfl
  i46 := by kernel_rfl
  i51 := by kernel_rfl
  i146 := by kernel_rfl
  m1 := by kernel_rfl
  s1_3 := fun w h => Go.Proofs.cell_of_shapedOpen_int (zero := #[.int .i64 0]) (t := 3) h (of_decide_eq_true (by kernel_rfl)) (by kernel_rfl) rfl (by kernel_rfl) (by kernel_rfl) Try.underlying3 }
open Go.RowKit Go.Lib in
theorem Try.stringslite_Cut_shaped (s sep : ByteArray) (w : World) (h : w.ShapedOpen Try.prog) (hs : s.size < 4294967281) :
    Calls Try.prog 147 #[.string s, .string sep] w fun e w' => e = .returned (.tuple #[.string ⟨(Lib.cut s.data.toList sep.data.toList).1.toArray⟩, .string ⟨(Lib.cut s.data.toList sep.data.toList).2.1.toArray⟩, .bool (Lib.cut s.data.toList sep.data.toList).2.2]) ∧ ∃ n, w' = w.drewN n := Any.stringslite_Cut_shaped Try.laysM220 s sep w h hs
def Try.laysM145_ren : Go.Shelf.Ren := ⟨fun | 145 => 111 | 220 => 147 | 219 => 172 | 217 => 183 | 225 => 184 | 224 => 185 | 267 => 186 | 266 => 190 | 314 => 191 | n => n, fun | 9 => 9 | 4 => 4 | 59 => 180 | 3 => 3 | 5 => 5 | 46 => 191 | 146 => 240 | 51 => 222 | n => n, fun | 1 => 0 | n => n⟩
theorem Try.laysM145 : Go.Proofs.LaysM.n145 Try.prog Try.laysM145_ren := {
  mixed := by kernel_rfl
  f145 := Try.func111.trans (congrArg some (by kernel_rfl))
  f217 := Try.func183.trans (congrArg some (by kernel_rfl))
  f219 := Try.func172.trans (congrArg some (by kernel_rfl))
  f220 := Try.func147.trans (congrArg some (by kernel_rfl))
  f224 := Try.func185.trans (congrArg some (by kernel_rfl))
  f225 := Try.func184.trans (congrArg some (by kernel_rfl))
  f266 := Try.func190.trans (congrArg some (by kernel_rfl))
  f267 := Try.func186.trans (congrArg some (by kernel_rfl))
  f314 := Try.func191.trans (congrArg some (by kernel_rfl))
  t3 := Try.underlying3
  a3 := Try.isAgg3
  z3 := Try.sizeOf3
  v3 := Try.zeroValue3
  t4 := Try.underlying4
  a4 := Try.isAgg4
  z4 := Try.sizeOf4
  v4 := Try.zeroValue4
  t5 := Try.underlying5
  a5 := Try.isAgg5
  z5 := Try.sizeOf5
  v5 := Try.zeroValue5
  t9 := Try.underlying9
  a9 := Try.isAgg9
  z9 := Try.sizeOf9
  v9 := Try.zeroValue9
  t46 := Try.underlying191
  a46 := Try.isAgg191
  z46 := Try.sizeOf191
  v46 := Try.zeroValue191
  t51 := Try.underlying222
  a51 := Try.isAgg222
  z51 := Try.sizeOf222
  v51 := Try.zeroValue222
  t59 := Try.underlying180
  a59 := Try.isAgg180
  z59 := Try.sizeOf180
  v59 := Try.zeroValue180
  t146 := Try.underlying240
  a146 := Try.isAgg240
  z146 := Try.sizeOf240
  v146 := Try.zeroValue240
  g1 := by kernel_rfl
  i3 := by kernel_rfl
  i4 := by kernel_rfl
  i5 := by kernel_rfl
  i9 := by kernel_rfl
  i46 := by kernel_rfl
  i51 := by kernel_rfl
  i59 := by kernel_rfl
  i146 := by kernel_rfl
  m1 := by kernel_rfl
  s1_3 := fun w h => Go.Proofs.cell_of_shapedOpen_int (zero := #[.int .i64 0]) (t := 3) h (of_decide_eq_true (by kernel_rfl)) (by kernel_rfl) rfl (by kernel_rfl) (by kernel_rfl) Try.underlying3 }
open Go.RowKit Go.Lib in
theorem Try.strings_Cut_shaped (s sep : ByteArray) (w : World) (h : w.ShapedOpen Try.prog) (hs : s.size < 4294967281) :
    Calls Try.prog 111 #[.string s, .string sep] w fun e w' => e = .returned (.tuple #[.string ⟨(Lib.cut s.data.toList sep.data.toList).1.toArray⟩, .string ⟨(Lib.cut s.data.toList sep.data.toList).2.1.toArray⟩, .bool (Lib.cut s.data.toList sep.data.toList).2.2]) ∧ ∃ n, w' = w.drewN n := Any.strings_Cut_shaped Try.laysM145 s sep w h hs
def Try.lays222_ren : Go.Shelf.Ren := ⟨fun | 222 => 189 | n => n, fun | 9 => 9 | 5 => 5 | 3 => 3 | 4 => 4 | n => n, fun | n => n⟩
theorem Try.lays222 : Go.Proofs.Lays.n222 Try.prog Try.lays222_ren := {
  mixed := by kernel_rfl
  f222 := Try.func189.trans (congrArg some (by kernel_rfl))
  t3 := Try.underlying3
  a3 := Try.isAgg3
  z3 := Try.sizeOf3
  v3 := Try.zeroValue3
  t4 := Try.underlying4
  a4 := Try.isAgg4
  z4 := Try.sizeOf4
  v4 := Try.zeroValue4
  t5 := Try.underlying5
  a5 := Try.isAgg5
  z5 := Try.sizeOf5
  v5 := Try.zeroValue5
  t9 := Try.underlying9
  a9 := Try.isAgg9
  z9 := Try.sizeOf9
  v9 := Try.zeroValue9 }
open Go.RowKit Go.Lib in
/-- internal/bytealg.LastIndexByteString: 'for i := len(s) - 1; i >= 0; i-- { if s[i] == c { return i } }; return -1'. (LAID: no walk: one application.) -/
theorem Try.bytealg_LastIndexByteString_nm (s : ByteArray) (c : Int) (hs : s.size < 4611686018427387904) (w : World) :
    Calls Try.prog 189 #[.string s, .int .u8 c] w fun e w' => e = .returned (.int .i64 (Lib.lastIndexByte s c)) ∧ w' = w := Any.bytealg_LastIndexByteString_nm Try.lays222 s c hs w
def Try.lays149_ren : Go.Shelf.Ren := ⟨fun | 149 => 180 | 222 => 189 | n => n, fun | 9 => 9 | 5 => 5 | 3 => 3 | 4 => 4 | n => n, fun | n => n⟩
theorem Try.lays149 : Go.Proofs.Lays.n149 Try.prog Try.lays149_ren := {
  mixed := by kernel_rfl
  f149 := Try.func180.trans (congrArg some (by kernel_rfl))
  f222 := Try.func189.trans (congrArg some (by kernel_rfl))
  t3 := Try.underlying3
  a3 := Try.isAgg3
  z3 := Try.sizeOf3
  v3 := Try.zeroValue3
  t4 := Try.underlying4
  a4 := Try.isAgg4
  z4 := Try.sizeOf4
  v4 := Try.zeroValue4
  t5 := Try.underlying5
  a5 := Try.isAgg5
  z5 := Try.sizeOf5
  v5 := Try.zeroValue5
  t9 := Try.underlying9
  a9 := Try.isAgg9
  z9 := Try.sizeOf9
  v9 := Try.zeroValue9 }
open Go.RowKit Go.Lib in
/-- strings.LastIndexByte: "LastIndexByte returns the index of the last instance of c in s, or -1 if c is not present in s." (LAID: no walk: one application.) -/
theorem Try.strings_LastIndexByte (s : ByteArray) (c : Int) (hs : s.size < 4611686018427387904) (w : World) :
    Calls Try.prog 180 #[.string s, .int .u8 c] w fun e w' => e = .returned (.int .i64 (Lib.lastIndexByte s c)) ∧ w' = w := Any.strings_LastIndexByte Try.lays149 s c hs w
def Try.lays206_ren : Go.Shelf.Ren := ⟨fun | 206 => 192 | n => n, fun | 9 => 9 | 4 => 4 | 3 => 3 | n => n, fun | n => n⟩
theorem Try.lays206 : Go.Proofs.Lays.n206 Try.prog Try.lays206_ren := {
  mixed := by kernel_rfl
  f206 := Try.func192.trans (congrArg some (by kernel_rfl))
  t3 := Try.underlying3
  a3 := Try.isAgg3
  z3 := Try.sizeOf3
  v3 := Try.zeroValue3
  t4 := Try.underlying4
  a4 := Try.isAgg4
  z4 := Try.sizeOf4
  v4 := Try.zeroValue4
  t9 := Try.underlying9
  a9 := Try.isAgg9
  z9 := Try.sizeOf9
  v9 := Try.zeroValue9 }
open Go.RowKit Go.Lib in
/-- internal/stringslite.HasPrefix (what strings.HasPrefix calls). (LAID: no walk: one application.) -/
theorem Try.stringslite_HasPrefix (s p : ByteArray) (w : World) :
    Calls Try.prog 192 #[.string s, .string p] w fun e w' => e = .returned (.bool (Lib.hasPrefix s.data.toList p.data.toList)) ∧ w' = w := Any.stringslite_HasPrefix Try.lays206 s p w
def Try.lays99_ren : Go.Shelf.Ren := ⟨fun | 99 => 188 | 206 => 192 | n => n, fun | 9 => 9 | 4 => 4 | 3 => 3 | n => n, fun | n => n⟩
theorem Try.lays99 : Go.Proofs.Lays.n99 Try.prog Try.lays99_ren := {
  mixed := by kernel_rfl
  f99 := Try.func188.trans (congrArg some (by kernel_rfl))
  f206 := Try.func192.trans (congrArg some (by kernel_rfl))
  t3 := Try.underlying3
  a3 := Try.isAgg3
  z3 := Try.sizeOf3
  v3 := Try.zeroValue3
  t4 := Try.underlying4
  a4 := Try.isAgg4
  z4 := Try.sizeOf4
  v4 := Try.zeroValue4
  t9 := Try.underlying9
  a9 := Try.isAgg9
  z9 := Try.sizeOf9
  v9 := Try.zeroValue9 }
open Go.RowKit Go.Lib in
/-- strings.HasPrefix: "HasPrefix reports whether the string s begins with prefix.": IT RETURNS 'Lib.hasPrefix s prefix'; the world is as it was. (LAID: no walk: one application.) -/
theorem Try.strings_HasPrefix (s p : ByteArray) (w : World) :
    Calls Try.prog 188 #[.string s, .string p] w fun e w' => e = .returned (.bool (Lib.hasPrefix s.data.toList p.data.toList)) ∧ w' = w := Any.strings_HasPrefix Try.lays99 s p w
def Try.lays194_ren : Go.Shelf.Ren := ⟨fun | 194 => 168 | n => n, fun | 31 => 63 | 9 => 9 | 3 => 3 | 4 => 4 | 0 => 0 | n => n, fun | n => n⟩
theorem Try.lays194 : Go.Proofs.Lays.n194 Try.prog Try.lays194_ren := {
  mixed := by kernel_rfl
  f194 := Try.func168.trans (congrArg some (by kernel_rfl))
  t0 := Try.underlying0
  a0 := Try.isAgg0
  z0 := Try.sizeOf0
  v0 := Try.zeroValue0
  t3 := Try.underlying3
  a3 := Try.isAgg3
  z3 := Try.sizeOf3
  v3 := Try.zeroValue3
  t4 := Try.underlying4
  a4 := Try.isAgg4
  z4 := Try.sizeOf4
  v4 := Try.zeroValue4
  t9 := Try.underlying9
  a9 := Try.isAgg9
  z9 := Try.sizeOf9
  v9 := Try.zeroValue9
  t31 := Try.underlying63
  a31 := Try.isAgg63
  z31 := Try.sizeOf63
  v31 := Try.zeroValue63 }
open Go.RowKit Go.Lib Go.Sort in
/-- slices.Compact at []string, over an array: the library's two loops are walked. (LAID: no walk: one application.) -/
theorem Try.slices_Compact_string_arr (blk off cap : Nat) (d : Array (List UInt8)) (w : World) (hH : Holds encStr w blk off d) (hsz : d.size ≤ 9223372036854775807) (hcap : d.size ≤ cap) :
    Calls Try.prog 168 #[.slice (some ⟨blk, off, none⟩) d.size cap] w fun e w' => e = .returned (.slice (some ⟨blk, off, none⟩) (compactUpTo d d.size).length cap) ∧ ∃ q, w' = putRow encStr (Sort.ahead w q) blk off (compactUpTo d d.size ++ List.replicate (d.size - (compactUpTo d d.size).length) []).toArray := Any.slices_Compact_string_arr Try.lays194 blk off cap d w hH hsz hcap
open Go.RowKit Go.Lib Go.Sort in
/-- slices.Compact at []string: "Compact replaces consecutive runs of equal elements with a single copy. This is like the uniq command found on Unix. Compact modifies the contents of the slice s and returns the modified slice, which may have a smaller length. Compact zeroes the elements between the new length and the original length. The result preserves the nilness of s.": IT RETURNS THE SLICE CUT TO 'Lib.compact zs'; ITS CELLS HOLD 'Lib.compact zs', THEN ZERO VALUES up to the old length; all else is as it was, but for the count of draws. IN THE WORDS OF slices.Sort's CONTRACT ('Holds', 'putRow'): so the everyday 'slices.Sort(xs); xs = slices.Compact(xs)' goes from the one contract to the other. It asks 'zs.length ≤ cap' (every slice's: the reslicing 's[:k]' looks at it). Length 0, nil: '.._empty'. (LAID: no walk: one application.) -/
theorem Try.slices_Compact_string (blk off cap : Nat) (zs : List (List UInt8)) (w : World) (hH : Holds encStr w blk off zs.toArray) (hsz : zs.length ≤ 9223372036854775807) (hcap : zs.length ≤ cap) :
    Calls Try.prog 168 #[.slice (some ⟨blk, off, none⟩) zs.length cap] w fun e w' => e = .returned (.slice (some ⟨blk, off, none⟩) (Lib.compact zs).length cap) ∧ ∃ q, w' = putRow encStr (Sort.ahead w q) blk off (Lib.compact zs ++ List.replicate (zs.length - (Lib.compact zs).length) []).toArray := Any.slices_Compact_string Try.lays194 blk off cap zs w hH hsz hcap
open Go.RowKit Go.Lib Go.Sort in
/-- The same at a slice of length 0, a nil one too: it comes back as it is. (LAID: no walk: one application.) -/
theorem Try.slices_Compact_string_empty (a : Option Addr) (cap : Nat) (w : World) :
    Calls Try.prog 168 #[.slice a 0 cap] w fun e w' => e = .returned (.slice a 0 cap) ∧ w' = w := Any.slices_Compact_string_empty Try.lays194 a cap w
open Go.RowKit Go.Lib Go.Sort in
/-- slices.Compact at []string, of an argument. (LAID: no walk: one application.) -/
theorem Try.slices_Compact_string_cells (b off n c : Nat) (Sx : Nat → ByteArray) (w : World) (hbig : n ≤ 9223372036854775807) (hcap : n ≤ c) (hc : ∀ i, i < n → w.cell? ⟨b, off + i, none⟩ = some (.string (Sx i))) (hf : ∀ j, j < n → w.frozen? ⟨b, off + j, none⟩ = false) :
    Calls Try.prog 168 #[.slice (some ⟨b, off, none⟩) n c] w fun e w' => e = .returned (.slice (some ⟨b, off, none⟩) (Lib.compact (Lib.strsOf Sx n)).length c) ∧ ∃ q, w' = (w.drewN q).setCells b off ((Lib.compact (Lib.strsOf Sx n) ++ List.replicate (n - (Lib.compact (Lib.strsOf Sx n)).length) []).map encStr) := Any.slices_Compact_string_cells Try.lays194 b off n c Sx w hbig hcap hc hf
def Try.lays115_ren : Go.Shelf.Ren := ⟨fun | 115 => 143 | n => n, fun | 37 => 24 | 4 => 4 | 9 => 9 | 5 => 5 | n => n, fun | n => n⟩
theorem Try.lays115 : Go.Proofs.Lays.n115 Try.prog Try.lays115_ren := {
  mixed := by kernel_rfl
  f115 := Try.func143.trans (congrArg some (by kernel_rfl))
  t4 := Try.underlying4
  a4 := Try.isAgg4
  z4 := Try.sizeOf4
  v4 := Try.zeroValue4
  t9 := Try.underlying9
  a9 := Try.isAgg9
  z9 := Try.sizeOf9
  v9 := Try.zeroValue9
  t37 := Try.underlying24
  a37 := Try.isAgg24
  z37 := Try.sizeOf24
  v37 := Try.zeroValue24 }
open Go.Proofs Go.RowKit Go.Lib in
/-- bytes.Equal, each argument with what 'string(..)' of it gives. (LAID: no walk: one application.) -/
theorem Try.bytes_Equal_strs (v1 v2 : Value) (t1 t2 : ByteArray) (w : World) (h1 : (convert 24 9 v1).run Try.prog w = .ok (.string t1) w) (h2 : (convert 24 9 v2).run Try.prog w = .ok (.string t2) w) :
    Calls Try.prog 143 #[v1, v2] w fun e w' => e = .returned (.bool (t1.toList == t2.toList)) ∧ w' = w := Any.bytes_Equal_strs Try.lays115 v1 v2 t1 t2 w h1 h2
def Try.laysSlK4_ren : Go.Shelf.Ren := ⟨fun | 4 => 133 | n => n, fun | 22 => 24 | 4 => 4 | 5 => 5 | n => n, fun | n => n⟩
theorem Try.laysSlK4 : Go.Proofs.SlLaysK.n4 Try.prog Try.laysSlK4_ren := {
  mixed := by kernel_rfl
  f4 := Try.func133.trans (congrArg some (by kernel_rfl))
  t4 := Try.underlying4
  a4 := Try.isAgg4
  z4 := Try.sizeOf4
  v4 := Try.zeroValue4
  t22 := Try.underlying24
  a22 := Try.isAgg24
  z22 := Try.sizeOf24
  v22 := Try.zeroValue24
  t5 := Try.underlying5
  i5 := by kernel_rfl }
open Go.RowKit Go.Lib in
/-- bytes.Clone: "Clone returns a copy of b[:len(b)]. The result may have additional unused capacity.": OF A SLICE THAT IS NOT nil IT RETURNS A SLICE THAT IS NOT nil, OF THE SAME BYTES, IN MEMORY OF THE CALL's OWN: in the how-to's words (6f): 'w'.ownsRow B e 1 v' n cells' · 'Below B w w'', B the heap's size at the call. b AT WHATEVER ADDRESS, its cells as 'open_ints' hands them ('a.add i'; the numbers 'xs'). No byte: no cell is asked for. (LAID: no walk: one application.) -/
theorem Try.bytes_Clone_at (a : Addr) (n c : Nat) (xs : List Int) (w : World) (hx : xs.length = n) (hbig : n ≤ 140737488355328) (hc : ∀ i, i < n → w.cell? (a.add i) = some (.int .u8 (xs.getD i 0))) :
    Calls Try.prog 133 #[.slice (some a) n c] w fun e w' => ∃ v', e = .returned v' ∧ w'.ownsRow w.heap.size 5 1 v' n (xs.map (Value.int .u8)) ∧ v' ≠ .slice none 0 0 ∧ Below w.heap.size w w' := Any.bytes_Clone_at Try.laysSlK4 a n c xs w hx hbig hc
open Go.RowKit Go.Lib in
/-- "Clone(nil) returns nil.": the world is as it was. (LAID: no walk: one application.) -/
theorem Try.bytes_Clone_nil (n c : Nat) (w : World) :
    Calls Try.prog 133 #[.slice none n c] w fun e w' => e = .returned (.slice none 0 0) ∧ w' = w := Any.bytes_Clone_nil Try.laysSlK4 n c w
def Try.laysSlF20_f150_ren : Go.Shelf.Ren := ⟨fun | 20 => 150 | n => n, fun | 24 => 9 | 22 => 63 | 3 => 3 | 25 => 113 | 4 => 4 | 0 => 0 | n => n, fun | n => n⟩
theorem Try.laysSlF20_f150 : Go.Proofs.SlLaysF.n20 Try.prog Try.laysSlF20_f150_ren := {
  mixed := by kernel_rfl
  f20 := ⟨Try.f150.name, by decide, Try.func150.trans (congrArg some (by kernel_rfl))⟩
  t0 := Try.underlying0
  a0 := Try.isAgg0
  z0 := Try.sizeOf0
  v0 := Try.zeroValue0
  t3 := Try.underlying3
  a3 := Try.isAgg3
  z3 := Try.sizeOf3
  v3 := Try.zeroValue3
  t4 := Try.underlying4
  a4 := Try.isAgg4
  z4 := Try.sizeOf4
  v4 := Try.zeroValue4
  t22 := Try.underlying63
  a22 := Try.isAgg63
  z22 := Try.sizeOf63
  v22 := Try.zeroValue63
  a24 := Try.isAgg9
  z24 := Try.sizeOf9
  t25 := Try.underlying113
  a25 := Try.isAgg113
  z25 := Try.sizeOf113
  v25 := Try.zeroValue113 }
open Go.RowKit Go.Lib Go.Sort in
theorem Try.insertionSortCmpFunc_one {α : Type} [Inhabited α] (enc : α → Value) (hO : OneCell enc) (cf : α → α → Int) (g : Nat) (cb : Array Value) (blk off cap a b : Nat) (d : Array α) (w : World) (eg : ∀ args w, (callFunc g args).run Try.prog w = .ok (.enter g args) w) (hcmp : CmpReads Try.prog g cb enc cf blk off d.size w) (hH : Holds enc w blk off d) (hab : a ≤ b) (hb : b ≤ d.size) (hsz : d.size < 4611686018427387904) :
    Calls Try.prog 150 #[.slice (some ⟨blk, off, none⟩) d.size cap, .int .i64 a, .int .i64 b, .func (.func g) #[] cb] w fun e w' =>
      e = .returned (.tuple #[]) ∧ ∃ n, w' = (putRow enc w blk off (Sort.insertionSort (ltOf cf) d a b)).drewN n := Any.insertionSortCmpFunc_one Try.laysSlF20_f150 enc hO cf g cb blk off cap a b d w eg hcmp hH hab hb hsz
open Go.RowKit Go.Lib Go.Sort in
/-- slices.insertionSortCmpFunc at elements of one cell: from a world of the sort's to a world of the sort's. (LAID AT THE INSTANCE 'slices.insertionSortCmpFunc[string]': no walk: one application.) -/
theorem Try.insertionSortCmpFunc_s {α : Type} [Inhabited α] (enc : α → Value) (cf : α → α → Int) (g : Nat) (cb : Array Value) (blk off cap a b : Nat) (d0 d : Array α) (w0 w : World) (eg : ∀ args w, (callFunc g args).run Try.prog w = .ok (.enter g args) w) (hcmp : CmpLays1 Try.prog g cb enc cf blk off d0.size w0) (R : Row1 enc w0 blk off d0) (hs : d0.size = d.size) (S : SW enc w0 blk off d w) (hab : a ≤ b) (hb : b ≤ d.size) (hsz : d.size < 4611686018427387904) :
    Calls Try.prog 150 #[.slice (some ⟨blk, off, none⟩) d.size cap, .int .i64 a, .int .i64 b, .func (.func g) #[] cb] w fun e w' => e = .returned (.tuple #[]) ∧ SW enc w0 blk off (Sort.insertionSort (ltOf cf) d a b) w' := Any.insertionSortCmpFunc_s Try.laysSlF20_f150 enc cf g cb blk off cap a b d0 d w0 w eg hcmp R hs S hab hb hsz
def Try.laysSlF24_f154_ren : Go.Shelf.Ren := ⟨fun | 24 => 154 | n => n, fun | 24 => 9 | 22 => 63 | 3 => 3 | 25 => 113 | 4 => 4 | 0 => 0 | n => n, fun | n => n⟩
theorem Try.laysSlF24_f154 : Go.Proofs.SlLaysF.n24 Try.prog Try.laysSlF24_f154_ren := {
  mixed := by kernel_rfl
  f24 := ⟨Try.f154.name, by decide, Try.func154.trans (congrArg some (by kernel_rfl))⟩
  t0 := Try.underlying0
  a0 := Try.isAgg0
  z0 := Try.sizeOf0
  v0 := Try.zeroValue0
  t3 := Try.underlying3
  a3 := Try.isAgg3
  z3 := Try.sizeOf3
  v3 := Try.zeroValue3
  t4 := Try.underlying4
  a4 := Try.isAgg4
  z4 := Try.sizeOf4
  v4 := Try.zeroValue4
  t22 := Try.underlying63
  a22 := Try.isAgg63
  z22 := Try.sizeOf63
  v22 := Try.zeroValue63
  a24 := Try.isAgg9
  z24 := Try.sizeOf9
  t25 := Try.underlying113
  a25 := Try.isAgg113
  z25 := Try.sizeOf113
  v25 := Try.zeroValue113 }
open Go.RowKit Go.Lib Go.Sort in
/-- slices.reverseRangeCmpFunc at elements of one cell: it exchanges and does not compare. (LAID AT THE INSTANCE 'slices.reverseRangeCmpFunc[string]': no walk: one application.) -/
theorem Try.reverseRangeCmpFunc {α : Type} [Inhabited α] (enc : α → Value) (g : Nat) (cb : Array Value) (blk off cap a b : Nat) (d0 d : Array α) (w0 w : World) (R : Row1 enc w0 blk off d0) (hs : d0.size = d.size) (S : SW enc w0 blk off d w) (hab : a ≤ b) (hb : b ≤ d.size) (hsz : d.size < 4611686018427387904) :
    Calls Try.prog 154 #[.slice (some ⟨blk, off, none⟩) d.size cap, .int .i64 a, .int .i64 b, .func (.func g) #[] cb] w fun e w' => e = .returned (.tuple #[]) ∧ SW enc w0 blk off (reverseRange d a b) w' := Any.reverseRangeCmpFunc Try.laysSlF24_f154 enc g cb blk off cap a b d0 d w0 w R hs S hab hb hsz
def Try.laysnb115_ren : Go.Shelf.Ren := ⟨fun | 115 => 143 | n => n, fun | 37 => 24 | 4 => 4 | 9 => 9 | 5 => 5 | n => n, fun | n => n⟩
theorem Try.laysnb115 : Go.Proofs.Lays.nb115 Try.prog Try.laysnb115_ren := {
  mixed := by kernel_rfl
  f115 := Try.func143.trans (congrArg some (by kernel_rfl))
  t4 := Try.underlying4
  a4 := Try.isAgg4
  z4 := Try.sizeOf4
  v4 := Try.zeroValue4
  t9 := Try.underlying9
  a9 := Try.isAgg9
  z9 := Try.sizeOf9
  v9 := Try.zeroValue9
  t37 := Try.underlying24
  a37 := Try.isAgg24
  z37 := Try.sizeOf24
  v37 := Try.zeroValue24
  t5 := Try.underlying5
  a5 := Try.isAgg5
  z5 := Try.sizeOf5
  v5 := Try.zeroValue5 }
/-- bytes.Equal: WHOLE. (LAID: no walk: one application.) -/
theorem Try.bytes_Equal_all (p1 p2 : Option Addr) (n c m d : Nat) (xs ys : List Int) (w : World) (hx : xs.length = n) (hy : ys.length = m) (h1 : Lib.BytesIn w p1 n xs) (h2 : Lib.BytesIn w p2 m ys) :
    Calls Try.prog 143 #[.slice p1 n c, .slice p2 m d] w fun e w' => e = .returned (.bool (Lib.bytesOf xs == Lib.bytesOf ys)) ∧ w' = w := Any.bytes_Equal_all Try.laysnb115 p1 p2 n c m d xs ys w hx hy h1 h2
def Try.laysPa45_ren : Go.Shelf.Ren := ⟨fun | 45 => 189 | n => n, fun | 9 => 9 | 5 => 5 | 3 => 3 | 4 => 4 | n => n, fun | n => n⟩
theorem Try.laysPa45 : Go.Proofs.Lays.p45 Try.prog Try.laysPa45_ren := {
  mixed := by kernel_rfl
  f45 := Try.func189.trans (congrArg some (by kernel_rfl))
  t3 := Try.underlying3
  a3 := Try.isAgg3
  z3 := Try.sizeOf3
  v3 := Try.zeroValue3
  t4 := Try.underlying4
  a4 := Try.isAgg4
  z4 := Try.sizeOf4
  v4 := Try.zeroValue4
  t5 := Try.underlying5
  a5 := Try.isAgg5
  z5 := Try.sizeOf5
  v5 := Try.zeroValue5
  t9 := Try.underlying9
  a9 := Try.isAgg9
  z9 := Try.sizeOf9
  v9 := Try.zeroValue9 }
open Go.RowKit Go.Lib in
/-- internal/bytealg.LastIndexByteString (what strings.LastIndexByte calls: "LastIndexByte returns the index of the last instance of c in s, or -1 if c is not present in s."): IT RETURNS 'Pa.lastIndexByte s c'; the world is as it was. (LAID: no walk: one application.) -/
theorem Try.bytealg_LastIndexByteString (s : ByteArray) (c : UInt8) (w : World) (hs : s.size ≤ 9223372036854775807) :
    Calls Try.prog 189 #[.string s, .int .u8 c.toNat] w fun e w' => e = .returned (.int .i64 (Pa.lastIndexByte s.data.toList c)) ∧ w' = w := Any.bytealg_LastIndexByteString Try.laysPa45 s c w hs
/-- bytes.Equal: "Equal reports whether a and b are the same length and contain the same bytes. A nil argument is equivalent to an empty slice.": IT RETURNS 'the bytes of the one == the bytes of the other'; the world is as it was. THE TWO ARGUMENTS COME AS WHATEVER VALUES, each with the one fact that the walk wants of it: what 'string(..)' of it gives: for a slice whose cells you know: 'run_convert_bytes_arg' (Derived/Laws/BytesArg.lean) hands that fact; for a nil one: 'run_convert_bytes_nil' (with xs := []). (LAID: no walk: one application.) -/
theorem Try.bytes_Equal (v1 v2 : Value) (xs ys : List Int) (w : World) (h1 : (convert 24 9 v1).run Try.prog w = .ok (.string (strOfNums xs)) w) (h2 : (convert 24 9 v2).run Try.prog w = .ok (.string (strOfNums ys)) w) :
    Calls Try.prog 143 #[v1, v2] w fun e w' => e = .returned (.bool (Lib.bytesOf xs == Lib.bytesOf ys)) ∧ w' = w := Any.bytes_Equal Try.lays115 v1 v2 xs ys w h1 h2
end Go.Proofs

/- Small plain facts on numbers and worlds, no program. -/
namespace Go.Proofs.Ytdnljmncdbcgeaa
open Go.RowKit Go.WideShapes Go.ChangeShapes

theorem Try.own : ownKnob Try.prog.godebug = none := by kernel_rfl
theorem Try.laidOut : laidOutB Try.prog = true := by kernel_rfl

section
variable {H : Type} {enc : TypeId × Value → H} {P : Program}
/-- The row's last step, where all that was there before the call is as it was. -/
theorem post_below {f : Func} {s : ChangeSpec} {apart fresh handsOn again : Bool} {W W' : World} {args : Array Value} {v : Value} {ds gs : List (DataW H)} {before pa pv : List MemPlace}
    (hW : DataW.Whole enc P f.params.toList s.vars apart W args.toList ds gs before)
    (hres : ∀ (b : Nat) (sp : Nat → Bool) (hd : Bool), DataW.TrodAll enc P W' b sp hd f.resultTypes.toList (v.resultList f.resultTypes.size) (s.fn H (ds ++ gs)).results [])
    (hargs : ∀ sp : Nat → Bool, (∀ p ∈ before, sp p.block = true) → DataW.TrodAll enc P W' 0 sp true f.params.toList args.toList (s.fn H (ds ++ gs)).args pa)
    (hvars : ∀ sp : Nat → Bool, (∀ p ∈ before, sp p.block = true) → DataW.TrodVars enc P W' sp s.vars (s.fn H (ds ++ gs)).vars pv)
    (hps : before = pa ++ pv) (hb : Below W.heap.size W W')
    (hok : ∀ (j : Nat) (t : TypeId) (r : Value), f.resultTypes[j]? = some t → (v.resultList f.resultTypes.size)[j]? = some r → Value.okWide P W' .any 0 t r) :
    s.post enc P f apart fresh handsOn again W args v W' := by
  have hlt : ∀ p ∈ before, p.block < W.heap.size := fun p hp => hW.lt p hp
  have hold : ∀ p ∈ before, (fun b => decide (b < W.heap.size)) p.block = true := fun p hp => by simpa using hlt p hp
  refine ⟨ds, gs, before, [], pa, pv, hW, hres _ _ _, hargs _ hold, hvars _ hold, World.keptBut_mono (fun p hp => ⟨hp, ?_⟩) (hb.frame (· ∈ before)), fun _ => ?_⟩
  · rw [hps, List.mem_append] at hp
    exact Or.inr hp
  · obtain ⟨_, _, _, _, _, hz, hn⟩ := hW
    refine ⟨hok, _, _, ([] ++ pa) ++ pv, ⟨[] ++ pa, pv, trodAll_append (hargs _ (fun _ _ => rfl)) (hres _ _ _), hvars _ (fun _ _ => rfl), rfl, ?_, ?_⟩, ?_⟩
    · intro b off hp
      have hin : MemPlace.cell b off ∈ before := by rw [hps]; simpa using hp
      rw [hb.frozen (hlt _ hin)]
      exact hz b off hin
    · intro ha
      have := hn ha
      rw [hps] at this
      simpa using this
    · intro p hp _
      rw [hps]
      simpa using hp
end

theorem u64_bd {n : Int} (h : (Lit.int .u64 n).wf = true) : 0 ≤ n ∧ n < 18446744073709551616 := by
  simp [Lit.wf, IntKind.min, IntKind.max, IntKind.bits, IntKind.signed] at h
  omega
theorem i64_bd {n : Int} (h : (Lit.int .i64 n).wf = true) : -9223372036854775808 ≤ n ∧ n < 9223372036854775808 := by
  simp [Lit.wf, IntKind.min, IntKind.max, IntKind.bits, IntKind.signed] at h
  omega
theorem u8_bd {n : Int} (h : (Lit.int .u8 n).wf = true) : 0 ≤ n ∧ n < 256 := by
  simp [Lit.wf, IntKind.min, IntKind.max, IntKind.bits, IntKind.signed] at h
  omega
theorem u32_bd {n : Int} (h : (Lit.int .u32 n).wf = true) : 0 ≤ n ∧ n < 4294967296 := by
  simp [Lit.wf, IntKind.min, IntKind.max, IntKind.bits, IntKind.signed] at h
  omega
/-- all old cells and marks read as they did -/
theorem bcell {W w1 : World} (hb : Below W.heap.size W w1) : (∀ b o, b < W.heap.size → w1.cell? ⟨b, o, none⟩ = W.cell? ⟨b, o, none⟩) ∧ (∀ b o, b < W.heap.size → w1.frozen? ⟨b, o, none⟩ = W.frozen? ⟨b, o, none⟩) :=
  ⟨fun b o h => hb.cell (p := ⟨b, o, none⟩) h, fun b o h => hb.frozen (p := ⟨b, o, none⟩) h⟩
theorem bthen {a b c : World} (h : Below a.heap.size a b) (k : Below b.heap.size b c) : Below a.heap.size a c := h.trans (k.mono h.size)
/-- what a region keeps whose calls only make memory -/
theorem keep_drew {a : World} : Below a.heap.size a a.drew ∧ (∀ b o, b < a.heap.size → a.drew.cell? ⟨b, o, none⟩ = a.cell? ⟨b, o, none⟩) :=
  ⟨(Below.refl _ _).drew, fun _ _ _ => rfl⟩
theorem keep_then {a b c : World} (h : Below a.heap.size a b) (k : Below b.heap.size b c) : Below a.heap.size a c ∧ (∀ x o, x < a.heap.size → c.cell? ⟨x, o, none⟩ = a.cell? ⟨x, o, none⟩) :=
  ⟨bthen h k, (bcell (bthen h k)).1⟩
theorem cellAt {a b : World} (h : Below a.heap.size a b) {x o : Nat} {u : Value} (hx : x < a.heap.size) (hu : a.cell? ⟨x, o, none⟩ = some u) : b.cell? ⟨x, o, none⟩ = some u :=
  (h.cell (p := ⟨x, o, none⟩) hx).trans hu
theorem ret_b {x y : Bool} (h : x = y) : Ending.returned (.bool x) = .returned (.bool y) := by rw [h]
theorem ret_i {k : IntKind} {x y : Int} (h : x = y) : Ending.returned (.int k x) = .returned (.int k y) := by rw [h]
theorem ret2ib {k : IntKind} {a b : Int} {x y : Bool} (h1 : a = b) (h : x = y) : Ending.returned (.tuple #[.int k a, .bool x]) = .returned (.tuple #[.int k b, .bool y]) := by rw [h1, h]
theorem ret3b {a b : Value} {x y : Bool} (h : x = y) : Ending.returned (.tuple #[a, b, .bool x]) = .returned (.tuple #[a, b, .bool y]) := by rw [h]
theorem ret2b {a : Value} {x y : Bool} (h : x = y) : Ending.returned (.tuple #[a, .bool x]) = .returned (.tuple #[a, .bool y]) := by rw [h]
end Go.Proofs.Ytdnljmncdbcgeaa

/- Texts as Go's strings: strings.Cut at a stroke, name.part. -/
namespace Go.Proofs.Ytdnljmncdbcgeaa
open Go.RowKit

/-- a text's bytes -/
abbrev tl (s : ByteArray) : List UInt8 := s.data.toList
theorem tl_head (s : ByteArray) (i : Nat) : tl (s.extract 0 i) = (tl s).take i := by simp [tl]
theorem tl_tail (s : ByteArray) (i : Nat) : tl (s.extract i s.size) = (tl s).drop i := by
  simp only [tl, ByteArray.data_extract, Array.toList_extract, List.extract_eq_take_drop]
  exact List.take_of_length_le (by simp)
theorem tl_len (s : ByteArray) : (tl s).length = s.size := by simp [tl]
theorem tl_inj {s t : ByteArray} (h : tl s = tl t) : s = t := by
  obtain ⟨⟨l⟩⟩ := s
  obtain ⟨⟨m⟩⟩ := t
  have : l = m := h
  rw [this]
/-- test's facts of two texts -/
theorem neq_yes {s t : ByteArray} (h : s = t) : (!s.toList == t.toList) = false := by subst h; simp
theorem neq_no {s t : ByteArray} (h : s ≠ t) : (!s.toList == t.toList) = true := by
  simp only [ByteArray.toList_eq, Bool.not_eq_true', beq_eq_false_iff_ne, ne_eq]
  exact fun e => h (tl_inj e)
theorem eq_yes {s t : ByteArray} (h : s = t) : (s.toList == t.toList) = true := by subst h; simp
theorem eq_no {s t : ByteArray} (h : s ≠ t) : (s.toList == t.toList) = false := by
  simp only [ByteArray.toList_eq, beq_eq_false_iff_ne, ne_eq]
  exact fun e => h (tl_inj e)
/-- nothing but draws -/
def Qt (w w' : World) : Prop := ∃ n, w' = w.drewN n
theorem Qt.refl (w : World) : Qt w w := ⟨0, rfl⟩
theorem Qt.trans {a b c : World} (h : Qt a b) (k : Qt b c) : Qt a c := by
  obtain ⟨n, rfl⟩ := h
  obtain ⟨m, rfl⟩ := k
  exact ⟨n + m, by rw [World.drewN_drewN]⟩
theorem Qt.below {a b : World} (h : Qt a b) : Below a.heap.size a b := by
  obtain ⟨n, rfl⟩ := h
  exact ⟨rfl, rfl, rfl, Nat.le_refl _, fun _ _ => rfl⟩

theorem liteCut_at (s : ByteArray) (i : Nat) (w : World) (h : Hid (Lib.indexByte (tl s) 47 = (i : Int))) (hi : i < s.size) (hs : s.size ≤ 9223372036854775807) :
    Calls Try.prog 147 #[.string s, .string ⟨#[47]⟩] w fun e w' => e = .returned (.tuple #[.string (s.extract 0 i), .string (s.extract (i + 1) s.size), .bool true]) ∧ Qt w w' := by
  have hw1 : IntKind.i64.wrap ((i : Int) + 1) = (i : Int) + 1 := IntWalk.i64_in _ (by omega)
  have b1 : (i : Int) ≤ (s.size : Int) := by omega
  have b2 : (0 : Int) ≤ (i : Int) + 1 := by omega
  have b3 : (i : Int) + 1 ≤ (s.size : Int) := by omega
  have b4 : ((i : Int) + 1).toNat = i + 1 := by omega
  go_enter Try.func147, Try.ntmps147
  go_wp2_with fail
  refine (Try.stringslite_Index_one s 47 w).mono ?_
  rw [h.out]
  rintro e w1 ⟨rfl, rfl⟩
  go_wp2_with fail
  go_quiet (fail)
  go_wp2_with fail
  go_ret3
  exact ⟨rfl, _, rfl⟩
theorem liteCut_none (s : ByteArray) (w : World) (h : Hid (Lib.indexByte (tl s) 47 = -1)) :
    Calls Try.prog 147 #[.string s, .string ⟨#[47]⟩] w fun e w' => e = .returned (.tuple #[.string s, .string ⟨#[]⟩, .bool false]) ∧ Qt w w' := by
  go_enter Try.func147, Try.ntmps147
  go_wp2_with fail
  refine (Try.stringslite_Index_one s 47 w).mono ?_
  rw [h.out]
  rintro e w1 ⟨rfl, rfl⟩
  go_wp2_with fail
  go_ret3
  exact ⟨rfl, Qt.refl _⟩
theorem strCut_at (s : ByteArray) (i : Nat) (w : World) (h : Hid (Lib.indexByte (tl s) 47 = (i : Int))) (hi : i < s.size) (hs : s.size ≤ 9223372036854775807) :
    Calls Try.prog 111 #[.string s, .string ⟨#[47]⟩] w fun e w' => e = .returned (.tuple #[.string (s.extract 0 i), .string (s.extract (i + 1) s.size), .bool true]) ∧ Qt w w' := by
  go_enter Try.func111, Try.ntmps111
  go_wp2_with fail
  refine (liteCut_at s i w h hi hs).mono ?_
  rintro e w1 ⟨rfl, n, rfl⟩
  go_wp2_with fail
  go_ret3
  exact ⟨rfl, _, rfl⟩
theorem strCut_none (s : ByteArray) (w : World) (h : Hid (Lib.indexByte (tl s) 47 = -1)) :
    Calls Try.prog 111 #[.string s, .string ⟨#[47]⟩] w fun e w' => e = .returned (.tuple #[.string s, .string ⟨#[]⟩, .bool false]) ∧ Qt w w' := by
  go_enter Try.func111, Try.ntmps111
  go_wp2_with fail
  refine (liteCut_none s w h).mono ?_
  rintro e w1 ⟨rfl, n, rfl⟩
  go_wp2_with fail
  go_ret3
  exact ⟨rfl, _, rfl⟩
/-- the two ways of it -/
theorem cut_ways (s : ByteArray) : (Lib.indexByte (tl s) 47 = -1 ∧ cutL (tl s) = [tl s]) ∨
    (∃ i : Nat, Lib.indexByte (tl s) 47 = (i : Int) ∧ i < s.size ∧ cutL (tl s) = tl (s.extract 0 i) :: cutL (tl (s.extract (i + 1) s.size))) := by
  have hg := Lib.indexByte_ge (tl s) 47
  rcases Int.lt_or_le (Lib.indexByte (tl s) 47) 0 with h | h
  · have h1 : Lib.indexByte (tl s) 47 = -1 := by omega
    refine .inl ⟨h1, cutL_none fun c hc => ?_⟩
    obtain ⟨k, hk, rfl⟩ := List.getElem_of_mem hc
    intro e
    exact Lib.indexByte_none h1 k (by rw [List.getElem?_eq_getElem hk, e])
  · obtain ⟨i, hi⟩ : ∃ i : Nat, Lib.indexByte (tl s) 47 = (i : Int) := ⟨_, (Int.toNat_of_nonneg h).symm⟩
    obtain ⟨h1, h2⟩ := Lib.indexByte_some hi
    have hlt : i < s.size := by have := (List.getElem?_eq_some_iff.1 h1).1; simpa using this
    refine .inr ⟨i, hi, hlt, ?_⟩
    rw [tl_head, tl_tail]
    refine cutL_at (fun c hc e => ?_) h1
    obtain ⟨k, hk, rfl⟩ := List.getElem_of_mem hc
    rw [List.getElem_take] at e
    have hk' : k < i := by rw [List.length_take] at hk; omega
    exact h2 k hk' (by rw [← e, List.getElem?_eq_getElem])

theorem index_contains (l : List UInt8) (c : UInt8) : decide (Lib.indexByte l c < 0) = !l.contains c := by
  have hg := Lib.indexByte_ge l c
  by_cases h : Lib.indexByte l c < 0
  · have h1 := Lib.indexByte_none (show Lib.indexByte l c = -1 by omega)
    rw [decide_eq_true h, eq_comm]
    simp only [Bool.not_eq_true', List.contains_eq_mem, decide_eq_false_iff_not]
    intro hc
    obtain ⟨k, hk, e⟩ := List.getElem_of_mem hc
    exact h1 k (by rw [List.getElem?_eq_getElem hk, e])
  · obtain ⟨i, hi⟩ : ∃ i : Nat, Lib.indexByte l c = (i : Int) := ⟨_, (Int.toNat_of_nonneg (by omega)).symm⟩
    have h1 := (Lib.indexByte_some hi).1
    rw [decide_eq_false h, eq_comm]
    simp only [Bool.not_eq_false', List.contains_eq_mem, decide_eq_true_eq]
    exact List.mem_of_getElem? h1
theorem part_any (s : ByteArray) (w : World) : Calls Try.prog 171 #[.string s] w fun e w' => e = .returned (.bool (partB (tl s))) ∧ w = w' := by
  obtain ⟨a, ha⟩ : ∃ a, s.data.toList = a := ⟨_, rfl⟩
  have HI := Lib.hid (index_contains a 0)
  have HL := Lib.hid (show a.length = s.size by rw [← ha]; exact tl_len s)
  have EA := Lib.hid (show s.toList = a by rw [ByteArray.toList_eq, ha])
  have HX := Try.strings_IndexByte s 0 w
  rw [ha] at HX
  rw [show tl s = a from ha]
  clear ha
  go_enter Try.func171, Try.ntmps171
  go_wp2_with (first | (go_at_call 182; refine HX.mono ?_; rintro e w1 ⟨rfl, rfl⟩))
  all_goals
    go_ret
    refine ⟨ret_b ?_, rfl⟩
    simp only [EA.out] at *
    have h1 := HI.out
    have h2 := HL.out
    clear HI HL HX
    unfold partB
    simp_all
    all_goals first
      | (intro hx; omega)
      | (rw [decide_eq_true (by omega : s.size ≤ 24)]; simp)
end Go.Proofs.Ytdnljmncdbcgeaa

/- A range over an iterator that keeps its state in one captured variable (a cell of block Bn): what the caller owes. No program. -/
namespace Go.Proofs.Ytdnljmncdbcgeaa
open Go.RowKit

/-- J stays where block Bn turns, and where blocks are laid -/
def Bends {α : Type} (Bn : Nat) (J : List α → World → Prop) : Prop := ∀ s A B, J s A → A.grownBy B (some Bn) → J s B
/-- what the function g does when it is called with a yield: it yields all of xs, or till one round says no more -/
def Yields {α : Type} (P : Program) (g : Nat) (lb : Array Value) (Bn : Nat) (enc : α → Value) (xs : List α) (W : World) : Prop :=
  ∀ (l : Nat) (J Jx : List α → World → Prop), Bends Bn J → Bends Bn Jx →
    (∀ pre x W1, J pre W1 → pre ++ [x] <+: xs → YieldAt Fence.wide 0 P l #[enc x] W1 fun e W2 =>
      (e = .returned (.bool true) ∧ J (pre ++ [x]) W2 ∧ W2.heap[Bn]? = W1.heap[Bn]?) ∨ (e = .returned (.bool false) ∧ Jx (pre ++ [x]) W2)) →
    J [] W → CallsIn Fence.wide 1 P g (#[.func (.yield l) #[] #[]] ++ lb) W fun e W2 => (∃ v, e = .returned v) ∧ (J xs W2 ∨ ∃ pre, pre <+: xs ∧ Jx pre W2)
/-- blocks of the loop's own book and the captured variable's lie as they lay -/
def Kept (Bn D : Nat) (W W' : World) : Prop := ∀ k, k = Bn ∨ k = D ∨ k = D + 1 → W'.heap[k]? = W.heap[k]?
/-- how a round may be left -/
def roundP {α : Type} (Bn D : Nat) (I Ix : List α → World → Prop) (xs : List α) (W : World) : Exit → Act → World → Prop
  | .normal, _, W' => Kept Bn D W W' ∧ I xs W'
  | .ret, _, W' => Kept Bn D W W' ∧ Ix xs W'
  | _, _, _ => False
/-- what an invariant of the caller's must stand -/
def Stands {α : Type} (Bn D : Nat) (I : List α → World → Prop) : Prop :=
  ∀ s A B r, I s A → A.grownBy B (some r) → r = Bn ∨ (D ≤ r ∧ ∃ o : Obj, A.heap[r]? = some o ∧ o.isCells = false) → I s B

theorem Stands.alloc {α : Type} {Bn D : Nat} {I : List α → World → Prop} (h : Stands Bn D I) {s : List α} {W : World} (o : Obj) (hs : I s W) : I s (W.alloc o) :=
  h s W _ Bn hs (World.grownBy_alloc W o _) (.inl rfl)
theorem Stands.put {α : Type} {Bn D : Nat} {I : List α → World → Prop} (h : Stands Bn D I) {s : List α} {W : World} {l : Nat} {o : Obj} (o' : Obj) (hs : I s W) (hD : D ≤ l) (hl : W.heap[l]? = some o) (ho : o.isCells = false) : I s (W.putObj l o') :=
  h s W _ l hs (grownBy_putObj' W l o') (.inr ⟨hD, o, hl, ho⟩)

theorem wp_rangeCell {α : Type} {P : Program} {g : Operand} {p : Tmp} {assign body : Code} {Q : Exit → Act → World → Prop} {a : Act} {w : World} {gf : Nat} {lb : Array Value} (hg : a.eval g = .func (.func gf) #[] lb)
    (eg : ∀ args w, (callFunc gf args).run P w = .ok (.enter gf args) w) {enc : α → Value} {xs : List α} {Bn : Nat} (hBn : Bn < w.heap.size) (hit : ∀ W, W.heap[Bn]? = w.heap[Bn]? → Yields P gf lb Bn enc xs W)
    (I Ix : List α → World → Prop) (hI : Stands Bn w.heap.size I) (hIx : Stands Bn w.heap.size Ix) (h0 : I [] w) (a₁ : α → Act)
    (hassign : ∀ (l : Nat) (x : α) (W : World) (K : Act → World → Prop), K (a₁ x) W →
      assign.wpIn (Fence.wide.inRound l) 0 P (Exit.then K (fun _ _ _ => False)) { tmps := (#[p].zip #[enc x]).foldl (fun t (p, v) => t.setIfInBounds p v) a.tmps, defers := [] } W)
    (hbody : ∀ (l : Nat) (pre : List α) (x : α) (W : World), I pre W → pre ++ [x] <+: xs → w.heap.size + 2 ≤ W.heap.size → body.wpIn (Fence.wide.inRound l) 0 P (roundP Bn w.heap.size I Ix (pre ++ [x]) W) (a₁ x) W)
    (hdone : ∀ W, I xs W → W.heap[w.heap.size]? = some (.deferred (some [])) → Q .normal { a with defers := { target := .collected w.heap.size, args := #[] } :: a.defers } W)
    (hstop : ∀ pre W, pre <+: xs → Ix pre W → W.heap[w.heap.size]? = some (.deferred (some [])) → Code.ret.wpIn Fence.wide 2 P Q { a with defers := { target := .collected w.heap.size, args := #[] } :: a.defers } W) :
    (Code.rangeFunc g #[p] assign body).wpIn Fence.wide 2 P Q a w := by
  refine wpIn_rangeFunc fun fn _ => ?_
  -- the loop's record, in any state; the world behind the two new blocks
  let rec_ : LoopState → Option Code → Obj := fun st pe => .loop { state := st, pending := pe, fn, tmps := a.tmps, params := #[p], assign, body, defers := w.heap.size }
  obtain ⟨V, hV⟩ : ∃ V, (w.alloc (.deferred (some []))).alloc (rec_ .ready none) = V := ⟨_, rfl⟩
  have v1 : V.heap[w.heap.size + 1]? = some (rec_ .ready none) := by
    rw [← hV]; have := World.alloc_heap_new (w.alloc (.deferred (some []))) (rec_ .ready none); rwa [World.size_alloc] at this
  have v0 : V.heap[w.heap.size]? = some (.deferred (some [])) := by
    rw [← hV]; exact (Below.heap_alloc _ _ _ (by simp)).trans (World.alloc_heap_new w _)
  have vB : V.heap[Bn]? = w.heap[Bn]? := by
    rw [← hV]; exact (Below.heap_alloc _ _ _ (by simp; omega)).trans (Below.heap_alloc _ _ _ hBn)
  have vI : I [] V := by rw [← hV]; exact hI.alloc _ (hI.alloc _ h0)
  refine ⟨w.heap.size + 1, [{ target := .collected w.heap.size, args := #[] }], V, { target := .fn (.func gf) lb, args := #[.func (.yield (w.heap.size + 1)) #[] #[]] }, V, gf,
    #[.func (.yield (w.heap.size + 1)) #[] #[]] ++ lb, V, ?_, ?_, fun _ _ => trivial, ?_, (fun _ => by omega), ?_⟩
  · rw [← hV]; exact run_enterLoop_outer _ _ _ _ _
  · simp only [resolve, hg]
    simp [go_sem]
  · simp [invoke, go_sem, eg]
  -- J, Jx: the caller's, and the book
  have turn : ∀ {A B : World} {k : Nat}, A.grownBy B (some Bn) → k ≠ Bn → ∀ {o : Obj}, A.heap[k]? = some o → B.heap[k]? = some o := fun hgr hk _ ho =>
    (hgr.block _ (Array.getElem?_eq_some_iff.1 ho).1 (fun e => hk (by cases e; rfl))).trans ho
  refine (hit V vB (w.heap.size + 1)
    (fun pre W => I pre W ∧ W.heap[w.heap.size + 1]? = some (rec_ .ready none) ∧ W.heap[w.heap.size]? = some (.deferred (some [])))
    (fun pre W => Ix pre W ∧ W.heap[w.heap.size + 1]? = some (rec_ .done (some .ret)) ∧ W.heap[w.heap.size]? = some (.deferred (some [])))
    (fun s A B h hgr => ⟨hI s A B Bn h.1 hgr (.inl rfl), turn hgr (by omega) h.2.1, turn hgr (by omega) h.2.2⟩)
    (fun s A B h hgr => ⟨hIx s A B Bn h.1 hgr (.inl rfl), turn hgr (by omega) h.2.1, turn hgr (by omega) h.2.2⟩) ?_ ⟨vI, v1, v0⟩).mono ?_
  · rintro pre x W ⟨hi, hl, hk⟩ hpre
    have hlt : w.heap.size + 1 < W.heap.size := (Array.getElem?_eq_some_iff.1 hl).1
    refine ⟨fn, _, assign, body, run_yield (P := P) (args := #[enc x]) hl rfl, roundIn_of_wpIn trivial (hassign _ x W _ ?_)⟩
    refine ⟨_, run_beginRound hl rfl, ?_⟩
    obtain ⟨U, hU⟩ : ∃ U, W.putObj (w.heap.size + 1) (rec_ .busy none) = U := ⟨_, rfl⟩
    have u1 : U.heap[w.heap.size + 1]? = some (rec_ .busy none) := by rw [← hU]; exact World.putObj_heap_same hlt
    have u0 : U.heap[w.heap.size]? = some (.deferred (some [])) := by rw [← hU]; exact (World.putObj_heap_other (by omega)).trans hk
    have uB : U.heap[Bn]? = W.heap[Bn]? := by rw [← hU]; exact World.putObj_heap_other (by omega)
    have uI : I pre U := by rw [← hU]; exact hI.put _ hi (by omega) hl rfl
    show body.wpIn _ _ _ _ _ (W.putObj (w.heap.size + 1) (rec_ .busy none))
    rw [hU]
    refine wpIn_mono (hbody _ pre x U uI hpre (Array.getElem?_eq_some_iff.1 u1).1) ?_
    rintro e a3 W3 hp
    cases e with
    | normal =>
      obtain ⟨hkp, hi3⟩ := hp
      have l3 : W3.heap[w.heap.size + 1]? = some (rec_ .busy none) := (hkp _ (.inr (.inr rfl))).trans u1
      refine ⟨_, _, run_endRound (P := P) none l3, .inl ⟨rfl, ⟨hI.put _ hi3 (by omega) l3 rfl, World.putObj_heap_same (Array.getElem?_eq_some_iff.1 l3).1, ?_⟩, ?_⟩⟩
      · exact (World.putObj_heap_other (by omega)).trans ((hkp _ (.inr (.inl rfl))).trans u0)
      · exact (World.putObj_heap_other (by omega)).trans ((hkp _ (.inl rfl)).trans uB)
    | ret =>
      obtain ⟨hkp, hi3⟩ := hp
      have l3 : W3.heap[w.heap.size + 1]? = some (rec_ .busy none) := (hkp _ (.inr (.inr rfl))).trans u1
      refine ⟨_, _, run_endRound (P := P) (some .ret) l3, .inr ⟨rfl, hIx.put _ hi3 (by omega) l3 rfl, World.putObj_heap_same (Array.getElem?_eq_some_iff.1 l3).1, ?_⟩⟩
      exact (World.putObj_heap_other (by omega)).trans ((hkp _ (.inr (.inl rfl))).trans u0)
    | exit id => exact hp.elim
    | goto t => exact hp.elim
    | panic ch => exact hp.elim
    | outgrown => exact hp.elim
  · rintro e W2 ⟨⟨v, rfl⟩, ⟨hi, hl, hk⟩ | ⟨pre, hpre, hi, hl, hk⟩⟩
    · exact ⟨none, _, run_endLoop (P := P) hl (fun e => by cases e), hdone _ (hI.put _ hi (by omega) hl rfl) ((World.putObj_heap_other (by omega)).trans hk)⟩
    · exact ⟨some .ret, _, run_endLoop (P := P) hl (fun e => by cases e), hstop pre _ hpre (hIx.put _ hi (by omega) hl rfl) ((World.putObj_heap_other (by omega)).trans hk)⟩
end Go.Proofs.Ytdnljmncdbcgeaa

/- name.parts: its iterator. -/
namespace Go.Proofs.Ytdnljmncdbcgeaa
open Go.RowKit

attribute [local go_sem] Oper.semAt_some

/-- a text as a value -/
def stv (l : List UInt8) : Value := .string ⟨⟨l⟩⟩
theorem stv_tl (s : ByteArray) : stv (tl s) = .string s := rfl
noncomputable def sizeAt (W : World) (b : Nat) : Nat := match W.cell? ⟨b, 0, none⟩ with | some (.string t) => t.size | _ => 0
theorem sizeAt_boxed {W : World} {b : Nat} {t : TypeId} {s : ByteArray} (h : Boxed W b t (.string s)) : sizeAt W b = s.size := by unfold sizeAt; rw [h.cell]
theorem grown_turn (W : World) (n b : Nat) (v : Value) : W.grownBy ((W.drewN n).setCell ⟨b, 0, none⟩ v) (some b) :=
  let h := grownBy_setCell' (W.drewN n) b v
  ⟨h.os, h.tape, h.output, h.size, h.block⟩
theorem pre_snoc {α : Type} {pre xs : List α} {y : α} {ys : List α} (h : xs = pre ++ y :: ys) : pre ++ [y] <+: xs := ⟨ys, by rw [h]; simp⟩
theorem boxed_eq {A B : World} {b : Nat} {t : TypeId} {v : Value} (h : Boxed A b t v) (e : B.heap[b]? = A.heap[b]?) : Boxed B b t v := e.trans h

set_option maxHeartbeats 1000000 in
theorem parts_yields (s : ByteArray) (hs : s.size ≤ 9223372036854775807) (Bn : Nat) (W : World) (hb : Boxed W Bn 9 (.string s)) :
    Yields Try.prog 181 #[.pointer (some ⟨Bn, 0, none⟩)] Bn stv (cutL (tl s)) W := by
  intro l J Jx hJ hJx hY h0
  refine callsIn_of_wp Try.func181 rfl trivial ?_ rfl
  simp only [Try.ntmps181, List.size_toArray, List.length_cons, List.length_nil, Nat.reduceAdd, Nat.reduceSub, Array.replicate_succ, Array.replicate_zero, List.push_toArray, List.append_toArray, List.nil_append, List.cons_append]
  gi_wp2
  gi_loopw [3] (fun m wr => (∃ (pre : List (List UInt8)) (t : ByteArray), m = .bool true ∧ cutL (tl s) = pre ++ cutL (tl t) ∧ t.size ≤ s.size ∧ Boxed wr Bn 9 (.string t) ∧ J pre wr) ∨ (m = .bool false ∧ J (cutL (tl s)) wr)) (fun m wr => match m with | .bool true => sizeAt wr Bn + 1 | _ => 0)
  case atStart => exact .inl ⟨[], s, rfl, rfl, Nat.le_refl _, hb, h0⟩
  case round =>
    rcases hrel with ⟨pre, t, rfl, hcut, ht, hbx, hJp⟩ | ⟨rfl, hJp⟩
    · have hc := hbx.cell
      have hf := hbx.frozen
      rcases cut_ways t with ⟨hi, hx⟩ | ⟨i, hi, hit, hx⟩
      · have HI := Lib.hid hi
        have HC := Lib.hid (hcut.trans (by rw [hx]))
        clear hi hx hcut
        gi_wp2_with (refine ⟨trivial, ?_⟩; gi_at_call 111; refine (callsIn_wide.2 (strCut_none t _ HI)).mono ?_; rintro e w1 ⟨rfl, n, rfl⟩; obtain ⟨fn, tmps, assign, body, hy, hR⟩ := hY pre (tl t) _ (hJ _ _ _ hJp (grown_turn wr n Bn (.string ⟨#[]⟩))) (pre_snoc HC.out); rw [stv_tl] at hy)
        refine hR.mono ?_
        rintro e W3 (⟨rfl, hJ3, hk3⟩ | ⟨rfl, hJx3⟩)
        · gi_wp2
          go_roundw
          case rel => exact .inr ⟨rfl, by rw [HC.out]; exact hJ3⟩
          case measure => exact Nat.succ_pos _
        · gi_wp2
          refine bodyPost_ret (results_none rfl _ _ _) rfl ?_
          exact ⟨⟨_, rfl⟩, .inr ⟨_, pre_snoc HC.out, hJx3⟩⟩
      · have HI := Lib.hid hi
        have HC := Lib.hid (hcut.trans (by rw [hx]))
        clear hi hx hcut
        gi_wp2_with (refine ⟨trivial, ?_⟩; gi_at_call 111; refine (callsIn_wide.2 (strCut_at t i _ HI hit (by omega))).mono ?_; rintro e w1 ⟨rfl, n, rfl⟩; obtain ⟨fn, tmps, assign, body, hy, hR⟩ := hY pre (tl (t.extract 0 i)) _ (hJ _ _ _ hJp (grown_turn wr n Bn (.string (t.extract (i + 1) t.size)))) (pre_snoc HC.out); rw [stv_tl] at hy)
        refine hR.mono ?_
        rintro e W3 (⟨rfl, hJ3, hk3⟩ | ⟨rfl, hJx3⟩)
        · have hb2 : Boxed ((wr.drewN n).setCell ⟨Bn, 0, none⟩ (.string (t.extract (i + 1) t.size))) Bn 9 (.string (t.extract (i + 1) t.size)) := Boxed.set (W := wr.drewN n) _ hbx
          have hb3 := boxed_eq hb2 hk3
          have hsz : (t.extract (i + 1) t.size).size = t.size - (i + 1) := by simp
          gi_wp2
          go_roundw
          case rel => exact .inl ⟨pre ++ [tl (t.extract 0 i)], t.extract (i + 1) t.size, rfl, by rw [HC.out]; simp, by omega, hb3, hJ3⟩
          case measure => simp only [sizeAt_boxed hb3, sizeAt_boxed hbx]; omega
        · gi_wp2
          refine bodyPost_ret (results_none rfl _ _ _) rfl ?_
          exact ⟨⟨_, rfl⟩, .inr ⟨_, pre_snoc HC.out, hJx3⟩⟩
    · gi_wp2
      go_end0
      exact ⟨⟨_, rfl⟩, .inl hJp⟩
theorem nameParts_any (s : ByteArray) (w : World) : Calls Try.prog 170 #[.string s] w fun e w' => e = .returned (.func (.func 181) #[] #[.pointer (some ⟨w.heap.size, 0, none⟩)]) ∧ w' = w.alloc (.cells #[.string s] 9) := by
  go_enter Try.func170, Try.ntmps170
  go_wp2_with fail
  go_ret
  exact ⟨rfl, rfl⟩
end Go.Proofs.Ytdnljmncdbcgeaa
