/- Closing changes: whoever is forced to give way, one after the other, whatever the order, there is one end. Plain lists. -/
import Derived.Test.YtffimpjjdhnajaaFenceRef
namespace Go.Proofs.Ytffimpjjdhnajaa
open Go.RowKit

def CV.conf (x : CV) : CV := { x with v := 5 }
theorem CV.conf_conf (x : CV) : x.conf.conf = x.conf := rfl
/-- a gives way among x -/
def Forced (x : List CV) (a : CV) : Prop := (∃ q ∈ x, upB a q = true) ∨ (∃ p ∈ x, lowB p a = true)
def Closed (x : List CV) : Prop := ∀ a ∈ x, ¬ Forced x a
inductive Turns (l : List CV) : List CV → Prop
  | none : Turns l l
  | turn {p s : List CV} {a : CV} : Turns l (p ++ a :: s) → Forced (p ++ a :: s) a → Turns l (p ++ a.conf :: s)
/-- y is x, but for some that have become conflicts -/
def Le (x y : List CV) : Prop := x.length = y.length ∧ ∀ (i : Nat) (a b : CV), x[i]? = some a → y[i]? = some b → b = a ∨ b = a.conf
def Closes (l x : List CV) : Prop := Turns l x ∧ Closed x

theorem upB_movesB {p q : CV} (h : upB p q = true) : movesB p.v = true := by
  unfold upB at h; simp only [Bool.and_eq_true] at h; exact h.1.1.2
theorem lowB_movesB {p q : CV} (h : lowB p q = true) : movesB q.v = true := by
  unfold lowB at h; simp only [Bool.and_eq_true] at h; exact h.1.2
theorem Forced.movesB {x : List CV} {a : CV} (h : Forced x a) : movesB a.v = true := by
  rcases h with ⟨q, _, h⟩ | ⟨p, _, h⟩
  · exact upB_movesB h
  · exact lowB_movesB h
theorem upB_conf {p q : CV} (h : upB p q = true) : upB p q.conf = true := by
  unfold upB CV.und at h ⊢
  simp only [Bool.and_eq_true] at h
  simp [CV.conf, h.1.1.1, h.1.1.2, openB]
  simpa using h.1.2
theorem lowB_conf {p q : CV} (h : lowB p q = true) : lowB p.conf q = true := by
  unfold lowB CV.und at h ⊢
  simp only [Bool.and_eq_true] at h
  simp [CV.conf, h.1.1, h.1.2, openB]

theorem Le.refl (x : List CV) : Le x x := ⟨rfl, fun i a b h1 h2 => .inl (Option.some.inj (h2.symm.trans h1))⟩
theorem Le.trans {x y z : List CV} (h : Le x y) (k : Le y z) : Le x z := ⟨h.1.trans k.1, fun i a c h1 h3 => by
  have hi : i < y.length := by rw [← h.1]; exact (List.getElem?_eq_some_iff.1 h1).1
  have h2 := List.getElem?_eq_getElem hi
  rcases h.2 i a _ h1 h2 with e | e <;> rcases k.2 i _ c h2 h3 with e' | e'
  · exact .inl (e'.trans e)
  · exact .inr (by rw [e', e])
  · exact .inr (e'.trans e)
  · exact .inr (by rw [e', e, CV.conf_conf])⟩
theorem Le.mem {x y : List CV} (h : Le x y) {q : CV} (hq : q ∈ x) : q ∈ y ∨ q.conf ∈ y := by
  obtain ⟨i, hi⟩ := List.mem_iff_getElem?.1 hq
  have hl : i < y.length := by rw [← h.1]; exact (List.getElem?_eq_some_iff.1 hi).1
  rcases h.2 i q _ hi (List.getElem?_eq_getElem hl) with e | e
  · exact .inl (e ▸ List.getElem_mem hl)
  · exact .inr (e ▸ List.getElem_mem hl)
theorem Forced.le {x y : List CV} {a : CV} (h : Forced x a) (k : Le x y) : Forced y a := by
  rcases h with ⟨q, hq, h⟩ | ⟨p, hp, h⟩
  · rcases k.mem hq with hy | hy
    · exact .inl ⟨q, hy, h⟩
    · exact .inl ⟨_, hy, upB_conf h⟩
  · rcases k.mem hp with hy | hy
    · exact .inr ⟨p, hy, h⟩
    · exact .inr ⟨_, hy, lowB_conf h⟩
theorem Le.step (p s : List CV) (a : CV) : Le (p ++ a :: s) (p ++ a.conf :: s) := ⟨by simp, fun i x y h1 h2 => by
  rcases Nat.lt_trichotomy i p.length with h | h | h
  · rw [List.getElem?_append_left h] at h1 h2; exact .inl (Option.some.inj (h2.symm.trans h1))
  · subst h; simp at h1 h2; subst h1 h2; exact .inr rfl
  · rw [List.getElem?_append_right (by omega)] at h1 h2
    rw [show i - p.length = (i - p.length - 1) + 1 by omega] at h1 h2
    simp at h1 h2
    exact .inl (Option.some.inj (h2.symm.trans h1))⟩
theorem Turns.le {l x : List CV} (h : Turns l x) : Le l x := by
  induction h with
  | none => exact Le.refl _
  | turn _ _ ih => exact ih.trans (Le.step _ _ _)
theorem Le.put {p s y : List CV} {a : CV} (h : Le (p ++ a :: s) y) (hy : Closed y) (hf : Forced (p ++ a :: s) a) : Le (p ++ a.conf :: s) y := by
  have hl : p.length < y.length := by rw [← h.1]; simp
  have hb := h.2 p.length a y[p.length] (by simp) (List.getElem?_eq_getElem hl)
  have hf' := hf.le h
  have hne : y[p.length] = a.conf := by
    rcases hb with e | e
    · exact absurd (e ▸ hf') (hy _ (List.getElem_mem hl))
    · exact e
  refine ⟨by rw [← h.1]; simp, fun i x z h1 h2 => ?_⟩
  rcases Nat.lt_trichotomy i p.length with hi | hi | hi
  · exact h.2 i x z (by rw [List.getElem?_append_left hi] at h1 ⊢; exact h1) h2
  · subst hi
    simp at h1
    subst h1
    rw [List.getElem?_eq_getElem hl, hne] at h2
    exact .inl (Option.some.inj h2).symm
  · refine h.2 i x z ?_ h2
    rw [List.getElem?_append_right (by omega)] at h1 ⊢
    rw [show i - p.length = (i - p.length - 1) + 1 by omega] at h1 ⊢
    simpa using h1
theorem Turns.le_closed {l x y : List CV} (h : Turns l x) (hl : Le l y) (hy : Closed y) : Le x y := by
  induction h with
  | none => exact hl
  | turn _ hf ih => exact ih.put hy hf
theorem Le.antisymm {x y : List CV} (h : Le x y) (k : Le y x) : x = y := by
  apply List.ext_getElem? 
  intro i
  rcases Nat.lt_or_ge i x.length with hi | hi
  · have hi2 : i < y.length := by rw [← h.1]; exact hi
    rw [List.getElem?_eq_getElem hi, List.getElem?_eq_getElem hi2]
    rcases h.2 i _ _ (List.getElem?_eq_getElem hi) (List.getElem?_eq_getElem hi2) with e | e
    · rw [e]
    · rcases k.2 i _ _ (List.getElem?_eq_getElem hi2) (List.getElem?_eq_getElem hi) with e' | e'
      · rw [e']
      · rw [e'] at e ⊢
        rw [e, CV.conf_conf, CV.conf_conf]
  · rw [List.getElem?_eq_none hi, List.getElem?_eq_none (by rw [← h.1]; exact hi)]
/-- **one end** -/
theorem Closes.unique {l x y : List CV} (h : Closes l x) (k : Closes l y) : x = y :=
  Le.antisymm (h.1.le_closed k.1.le k.2) (k.1.le_closed h.1.le h.2)
theorem Closes.refl {l : List CV} (h : Closed l) : Closes l l := ⟨.none, h⟩
theorem Forced.perm {x y : List CV} {a : CV} (h : Forced x a) (k : ∀ q, q ∈ x → q ∈ y) : Forced y a := by
  rcases h with ⟨q, hq, h⟩ | ⟨p, hp, h⟩
  · exact .inl ⟨q, k q hq, h⟩
  · exact .inr ⟨p, k p hp, h⟩
theorem Turns.reverse {l x : List CV} (h : Turns l x) : Turns l.reverse x.reverse := by
  induction h with
  | none => exact .none
  | @turn p s a _ hf ih =>
    have e : ∀ b : CV, (p ++ b :: s).reverse = s.reverse ++ b :: p.reverse := fun b => by simp
    rw [e] at ih ⊢
    exact .turn ih (hf.perm (fun q hq => by rw [← e]; exact List.mem_reverse.2 hq))
theorem Closed.reverse {x : List CV} (h : Closed x) : Closed x.reverse := fun a ha hf =>
  h a (List.mem_reverse.1 ha) (hf.perm (fun q hq => List.mem_reverse.1 hq))
theorem Closes.reverse {l x : List CV} (h : Closes l x) : Closes l.reverse x.reverse := ⟨h.1.reverse, h.2.reverse⟩

/-- how many move -/
def mv (x : List CV) : Nat := x.countP (fun a => movesB a.v)
theorem mv_conf (p s : List CV) (a : CV) (h : movesB a.v = true) : mv (p ++ a.conf :: s) < mv (p ++ a :: s) := by
  unfold mv
  rw [List.countP_append, List.countP_append, List.countP_cons, List.countP_cons]
  have h5 : movesB a.conf.v = false := rfl
  simp only [h, h5]
  simp
theorem Le.mv_le : ∀ {x y : List CV}, Le x y → mv y ≤ mv x
  | [], [], _ => Nat.le_refl _
  | [], _ :: _, h => by have := h.1; simp at this
  | _ :: _, [], h => by have := h.1; simp at this
  | a :: x, b :: y, h => by
    have ht : Le x y := ⟨by simpa using h.1, fun i c d h1 h2 => h.2 (i + 1) c d (by simpa using h1) (by simpa using h2)⟩
    have := Le.mv_le ht
    unfold mv at this ⊢
    rw [List.countP_cons, List.countP_cons]
    rcases h.2 0 a b rfl rfl with e | e
    · subst e; omega
    · subst e
      have : movesB a.conf.v = false := rfl
      simp only [this]
      simp
      omega
theorem set_split {x : List CV} {m : Nat} {a b : CV} (h : x[m]? = some a) : ∃ p s, x = p ++ a :: s ∧ x.set m b = p ++ b :: s := by
  obtain ⟨hm, rfl⟩ := List.getElem?_eq_some_iff.1 h
  refine ⟨x.take m, x.drop (m + 1), ?_, ?_⟩
  · rw [List.getElem_cons_drop, List.take_append_drop]
  · rw [List.set_eq_take_append_cons_drop, if_pos hm]
/-- one who is forced becomes a conflict, where it stands -/
theorem Turns.set {l x : List CV} {m : Nat} {a : CV} (h : Turns l x) (ha : x[m]? = some a) (hf : Forced x a) : Turns l (x.set m a.conf) ∧ mv (x.set m a.conf) < mv x := by
  obtain ⟨p, s, e1, e2⟩ := set_split (b := a.conf) ha
  rw [e2, e1]
  rw [e1] at h hf
  exact ⟨.turn h hf, mv_conf p s a hf.movesB⟩
/-- .. or was one by then -/
theorem Turns.set_le {l o x : List CV} {m : Nat} {a b : CV} (h : Turns l x) (hle : Le o x) (ho : o[m]? = some a) (hx : x[m]? = some b) (hf : Forced o a) :
    Turns l (x.set m b.conf) ∧ Le o (x.set m b.conf) ∧ mv (x.set m b.conf) < mv o := by
  rcases hle.2 m a b ho hx with e | e
  · subst e
    obtain ⟨h1, h2⟩ := h.set hx (hf.le hle)
    refine ⟨h1, ?_, Nat.lt_of_lt_of_le h2 hle.mv_le⟩
    obtain ⟨p, s, e1, e2⟩ := set_split (b := b.conf) hx
    rw [e2]
    rw [e1] at hle
    exact hle.trans (Le.step _ _ _)
  · have e3 : x.set m b.conf = x := by
      apply List.ext_getElem?
      intro i
      rw [List.getElem?_set]
      split
      · rename_i hi; subst hi; rw [hx, e]; have := (List.getElem?_eq_some_iff.1 hx).1; simp [this, CV.conf_conf]
      · rfl
    rw [e3]
    refine ⟨h, hle, ?_⟩
    -- b is a conflict where a moves
    obtain ⟨p, s, e1, e2⟩ := set_split (b := a.conf) ho
    have : Le (o.set m a.conf) x := by
      refine ⟨by rw [List.length_set]; exact hle.1, fun i c d h1 h2 => ?_⟩
      rw [List.getElem?_set] at h1
      split at h1
      · rename_i hi
        subst hi
        have := (List.getElem?_eq_some_iff.1 ho).1
        simp [this] at h1
        rw [hx] at h2
        injection h2 with h2
        exact .inl (by rw [← h2, e, ← h1])
      · exact hle.2 i c d h1 h2
    have h3 := this.mv_le
    have h4 := mv_conf p s a hf.movesB
    rw [e2] at h3
    rw [← e1] at h4
    omega
/-- closed, pair by pair -/
theorem closed_of {x : List CV} (h : ∀ (i k : Nat) (a b : CV), x[i]? = some a → x[k]? = some b → upB a b = false ∧ lowB a b = false) : Closed x := by
  intro a ha hf
  obtain ⟨i, hi⟩ := List.mem_iff_getElem?.1 ha
  rcases hf with ⟨q, hq, hu⟩ | ⟨p, hp, hu⟩
  · obtain ⟨k, hk⟩ := List.mem_iff_getElem?.1 hq
    rw [(h i k _ _ hi hk).1] at hu; cases hu
  · obtain ⟨k, hk⟩ := List.mem_iff_getElem?.1 hp
    rw [(h k i _ _ hk hi).2] at hu; cases hu
theorem Closed.pair {x : List CV} (h : Closed x) {a b : CV} (ha : a ∈ x) (hb : b ∈ x) : upB a b = false ∧ lowB a b = false := by
  constructor
  · cases hu : upB a b with
    | false => rfl
    | true => exact absurd (.inl ⟨b, hb, hu⟩) (h a ha)
  · cases hu : lowB a b with
    | false => rfl
    | true => exact absurd (.inr ⟨a, ha, hu⟩) (h b hb)
end Go.Proofs.Ytffimpjjdhnajaa
