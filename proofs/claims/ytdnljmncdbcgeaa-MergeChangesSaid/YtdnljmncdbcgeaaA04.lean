/- A book, plainly: which entry is spare, what Put answers and leaves. No program. -/
import Derived.Test.YtdnljmncdbcgeaaA03
import Derived.Handy
import Derived.Deep.RegionHeld3
import Derived.Deep.Cut

namespace Go.Proofs.Ytdnljmncdbcgeaa

/-- an entry, plainly: version, kind, bytes -/
abbrev EP := Int × Int × List UInt8
/-- the entry of nothing of the least version, the first of them -/
def spareB : List (List UInt8 × EP) → Option (List UInt8 × EP)
  | [] => none
  | x :: l => match spareB l with
    | none => if x.2.2.1 = 0 then some x else none
    | some y => if x.2.2.1 = 0 ∧ x.2.1 ≤ y.2.1 then some x else some y
/-- one is ahead of the other -/
def aheadB (x y : List UInt8 × EP) : Prop := x.2.1 < y.2.1 ∨ (x.2.1 = y.2.1 ∧ cmpT x.1 y.1 < 0)
theorem spareB_none : ∀ {T : List (List UInt8 × EP)}, spareB T = none → ∀ y ∈ T, y.2.2.1 ≠ 0
  | [], _, y, hy => by cases hy
  | x :: l, h, y, hy => by
    unfold spareB at h
    rcases hs : spareB l with _ | z
    · rw [hs] at h
      dsimp only at h
      split at h
      · cases h
      · rename_i hx
        rcases List.mem_cons.1 hy with rfl | hy
        · exact hx
        · exact spareB_none hs y hy
    · rw [hs] at h
      dsimp only at h
      split at h <;> cases h
theorem spareB_mem : ∀ {T : List (List UInt8 × EP)} {x : List UInt8 × EP}, spareB T = some x → x ∈ T ∧ x.2.2.1 = 0
  | [], _, h => by cases h
  | y :: l, x, h => by
    unfold spareB at h
    rcases hs : spareB l with _ | z
    · rw [hs] at h
      dsimp only at h
      split at h
      · rename_i hx
        injection h with h
        subst h
        exact ⟨List.mem_cons_self, hx⟩
      · cases h
    · rw [hs] at h
      dsimp only at h
      split at h
      · rename_i hx
        injection h with h
        subst h
        exact ⟨List.mem_cons_self, hx.1⟩
      · injection h with h
        subst h
        obtain ⟨h1, h2⟩ := spareB_mem hs
        exact ⟨List.mem_cons_of_mem _ h1, h2⟩
theorem spareB_least : ∀ {T : List (List UInt8 × EP)} {x : List UInt8 × EP}, SortR T → spareB T = some x → ∀ y ∈ T, y.2.2.1 = 0 → y = x ∨ aheadB x y
  | [], _, _, h, _, _, _ => by cases h
  | z :: l, x, hT, h, y, hy, h0 => by
    unfold SortR at hT
    rw [List.pairwise_cons] at hT
    unfold spareB at h
    rcases hs : spareB l with _ | q
    · rw [hs] at h
      dsimp only at h
      split at h
      · injection h with h
        subst h
        rcases List.mem_cons.1 hy with rfl | hy
        · exact .inl rfl
        · exact absurd h0 (spareB_none hs y hy)
      · cases h
    · rw [hs] at h
      dsimp only at h
      obtain ⟨hq, _⟩ := spareB_mem hs
      have ih := fun y hy h0 => spareB_least (x := q) hT.2 hs y hy h0
      split at h
      · rename_i hz
        injection h with h
        subst h
        rcases List.mem_cons.1 hy with rfl | hy
        · exact .inl rfl
        · refine .inr ?_
          have hzy := hT.1 y hy
          rcases ih y hy h0 with rfl | hh | ⟨e, _⟩
          · unfold aheadB
            by_cases e : z.2.1 = y.2.1
            · exact .inr ⟨e, hzy⟩
            · exact .inl (by omega)
          · exact .inl (by omega)
          · unfold aheadB
            by_cases e2 : z.2.1 = y.2.1
            · exact .inr ⟨e2, hzy⟩
            · exact .inl (by omega)
      · rename_i hz
        injection h with h
        subst h
        rcases List.mem_cons.1 hy with rfl | hy
        · refine .inr (.inl ?_)
          have : ¬ (y.2.1 ≤ q.2.1) := fun e => hz ⟨h0, e⟩
          omega
        · exact ih y hy h0
theorem spareB_snoc (x : List UInt8 × EP) : ∀ T : List (List UInt8 × EP), spareB (T ++ [x]) = match spareB T with
    | none => if x.2.2.1 = 0 then some x else none
    | some y => if x.2.2.1 = 0 ∧ x.2.1 < y.2.1 then some x else some y
  | [] => rfl
  | z :: T => by
    have ih := spareB_snoc x T
    rw [List.cons_append, spareB, spareB, ih]
    rcases spareB T with _ | q
    · dsimp only
      by_cases h1 : x.2.2.1 = 0
      · by_cases h2 : z.2.2.1 = 0
        · by_cases h3 : z.2.1 ≤ x.2.1
          · simp [h1, h2, h3, Int.not_lt.2 h3]
          · simp [h1, h2, h3, Int.not_le.1 h3]
        · simp [h1, h2]
      · by_cases h2 : z.2.2.1 = 0 <;> simp [h1, h2]
    · dsimp only
      by_cases h1 : x.2.2.1 = 0 ∧ x.2.1 < q.2.1
      · by_cases h2 : z.2.2.1 = 0
        · by_cases h3 : z.2.1 ≤ x.2.1
          · have h4 : z.2.1 ≤ q.2.1 := by omega
            simp [h1, h2, h3, h4, Int.not_lt.2 h3]
          · by_cases h4 : z.2.1 ≤ q.2.1
            · simp [h1, h2, h3, h4, Int.not_le.1 h3]
            · simp [h1, h2, h3, h4]
        · simp [h1, h2]
      · rw [if_neg h1]
        by_cases h2 : z.2.2.1 = 0 ∧ z.2.1 ≤ q.2.1
        · simp only [if_pos h2]
          have : ¬ (x.2.2.1 = 0 ∧ x.2.1 < z.2.1) := fun ⟨e1, e2⟩ => h1 ⟨e1, by omega⟩
          rw [if_neg this]
        · simp only [if_neg h2, if_neg h1]
theorem aheadB_asymm {x y : List UInt8 × EP} (h : aheadB x y) (k : aheadB y x) : False := by
  unfold aheadB at h k
  have := ordT.flip x.1 y.1
  omega
theorem aheadB_trans {x y z : List UInt8 × EP} (h : aheadB x y) (k : aheadB y z) : aheadB x z := by
  unfold aheadB at *
  rcases h with h | ⟨h1, h2⟩
  · rcases k with k | ⟨k1, _⟩
    · exact .inl (by omega)
    · exact .inl (by omega)
  · rcases k with k | ⟨k1, k2⟩
    · exact .inl (by omega)
    · exact .inr ⟨by omega, ordT.trans _ _ _ h2 k2⟩
theorem aheadB_total (x y : List UInt8 × EP) (h : x.1 ≠ y.1) : aheadB x y ∨ aheadB y x := by
  unfold aheadB
  have h1 := ordT.flip x.1 y.1
  have h2 := cmpT_eq x.1 y.1
  by_cases e : x.2.1 = y.2.1
  · by_cases e2 : cmpT x.1 y.1 < 0
    · exact .inl (.inr ⟨e, e2⟩)
    · have e3 : cmpT x.1 y.1 ≠ 0 := fun e => h (h2.1 e)
      exact .inr (.inr ⟨e.symm, by omega⟩)
  · by_cases e2 : x.2.1 < y.2.1
    · exact .inl (.inl e2)
    · exact .inr (.inl (by omega))
/-- the least one is the spare one -/
theorem spareB_of {T : List (List UInt8 × EP)} {x : List UInt8 × EP} (hT : SortR T) (hx : x ∈ T) (h0 : x.2.2.1 = 0) (hl : ∀ y ∈ T, y.2.2.1 = 0 → y = x ∨ aheadB x y) : spareB T = some x := by
  rcases hs : spareB T with _ | z
  · exact absurd h0 (spareB_none hs x hx)
  · obtain ⟨hz, hz0⟩ := spareB_mem hs
    rcases hl z hz hz0 with rfl | h1
    · rfl
    · rcases spareB_least hT hs x hx h0 with rfl | h2
      · rfl
      · exact (aheadB_asymm h1 h2).elim
/-- what Put answers, and what it leaves; chk: what Check says of the entry -/
def putB (T : List (List UInt8 × EP)) (p : List UInt8) (x : EP) (chk : Int) : List (List UInt8 × EP) × Int :=
  if chk ≠ 0 then (T, chk)
  else if x.1 ≤ ((getR T p).map (·.1)).getD 0 then (T, 31)
  else if (getR T p).isNone = true ∧ 256 ≤ T.length then
    (spareB T).elim (T, 24) fun y => (putR (withoutR T y.1) p x, 0)
  else (putR T p x, 0)
end Go.Proofs.Ytdnljmncdbcgeaa

/- bytes.Clone. -/
namespace Go.Proofs.Ytdnljmncdbcgeaa
open Go.RowKit

theorem clone_any (A : Option Addr) (c : Nat) (l : List UInt8) (Z : Nat → Prop) (w : World) (h : By w Z A l) (hlen : l.length ≤ 140737488355328) :
    Calls Try.prog 133 #[.slice A l.length c] w fun e w' => ∃ (A' : Option Addr) (c' : Nat) (l' : List UInt8), e = .returned (.slice A' l'.length c') ∧ Hid (l' = l) ∧ OwB w' w.heap.size (.slice A' l'.length c') l' ∧ Below w.heap.size w w' := by
  rcases A with _ | a
  · have hl : l = [] := by
      rcases l with _ | ⟨x, l⟩
      · rfl
      · obtain ⟨b, off, e, _⟩ := h.2 (by simp); cases e
    subst hl
    refine (Try.bytes_Clone_nil 0 c w).mono ?_
    rintro e w' ⟨rfl, rfl⟩
    exact ⟨none, 0, [], rfl, rfl, OwB.nil _ _, Below.refl _ _⟩
  · refine (Try.bytes_Clone_at a l.length c (l.map fun x => (x.toNat : Int)) w (by simp) hlen ?_).mono ?_
    · intro i hi
      have hg : (l.map bv)[i]? = some (bv l[i]) := by rw [List.getElem?_map, List.getElem?_eq_getElem hi]; rfl
      obtain ⟨b, off, e, _, _, hc⟩ := Rd.atj h hg
      injection e with e
      subst e
      rw [add_none, hc, List.getD_eq_getElem?_getD, List.getElem?_map, List.getElem?_eq_getElem hi]
      rfl
    · rintro e w' ⟨v, rfl, h1, _, hb⟩
      have ho : OwB w' w.heap.size v l := by
        unfold OwB
        have e2 : (l.map fun x => (x.toNat : Int)).map (Value.int .u8) = l.map bv := by simp [bv, Function.comp_def]
        rw [← e2]
        exact h1
      obtain ⟨A', c', rfl, _⟩ := ho.form
      exact ⟨A', c', l, rfl, rfl, ho, hb⟩

theorem own_ablk {w : World} {base : Nat} {A : Option Addr} {n c : Nat} {l : List UInt8} (h : OwB w base (.slice A n c) l) : ∀ b, ablk A = some b → base ≤ b ∧ b < w.heap.size := by
  intro b hb
  rcases A with _ | a
  · cases hb
  · exact h.lt b (by simpa [ablk, Value.ownBlock] using hb)

end Go.Proofs.Ytdnljmncdbcgeaa

/- leaf and tenderref07: Check, Same, Size, Clone, OfFile, OfDir, Name. -/
namespace Go.Proofs.Ytdnljmncdbcgeaa
open Go.RowKit

/-- what an answer to 'is a leaf right?' is -/
def checkN (k : Int) (n : Nat) : Int := if k = 1 then (if n ≤ 4096 then 0 else 13) else if k = 0 ∨ k = 2 then (if n = 0 then 0 else 2) else 2
/-- a leaf as a value -/
abbrev leafV (k : Int) (x : BV) : Value := .agg #[.int .i64 k, .slice x.A x.l.length x.c]

/-- a leaf -/
structure LV where
  k : Int
  x : BV
def LV.cells (o : LV) : List Value := [.int .i64 o.k, .slice o.x.A o.x.l.length o.x.c]
abbrev LV.v (o : LV) : Value := .agg #[.int .i64 o.k, .slice o.x.A o.x.l.length o.x.c]

set_option maxHeartbeats 400000 in
theorem leafCheck_any (k : Int) (A : Option Addr) (n c : Nat) (w : World) (hn : n ≤ 140737488355328) :
    Calls Try.prog 109 #[.agg #[.int .i64 k, .slice A n c]] w fun e w' => e = .returned (.int .i64 (checkN k n)) ∧ Below w.heap.size w w' := by
  have h1 : k = 1 → n ≤ 4096 → Hid (checkN k n = 0) := fun h1 h2 => Lib.hid (by unfold checkN; rw [if_pos h1, if_pos h2])
  have h2 : k = 1 → ¬ n ≤ 4096 → Hid (checkN k n = 13) := fun h1 h2 => Lib.hid (by unfold checkN; rw [if_pos h1, if_neg h2])
  have h3 : k ≠ 1 → (k = 0 ∨ k = 2) → n = 0 → Hid (checkN k n = 0) := fun h1 h2 h3 => Lib.hid (by unfold checkN; rw [if_neg h1, if_pos h2, if_pos h3])
  have h4 : k ≠ 1 → (k = 0 ∨ k = 2) → n ≠ 0 → Hid (checkN k n = 2) := fun h1 h2 h3 => Lib.hid (by unfold checkN; rw [if_neg h1, if_pos h2, if_neg h3])
  have h5 : k ≠ 1 → ¬ (k = 0 ∨ k = 2) → Hid (checkN k n = 2) := fun h1 h2 => Lib.hid (by unfold checkN; rw [if_neg h1, if_neg h2])
  generalize checkN k n = r at *
  by_cases k1 : k = 1
  · by_cases hs : n ≤ 4096
    · have hr := h1 k1 hs
      clear h1 h2 h3 h4 h5
      subst k1
      go_enter Try.func109, Try.ntmps109
      go_wp2_with fail
      go_ret
      exact ⟨by rw [hr.out]; rfl, (by repeat (first | exact Below.refl _ _ | refine Below.alloc ?_ (by simp) _ | refine Below.setCell ?_ (by simp) _ | refine Below.drew ?_))⟩
    · have hr := h2 k1 hs
      clear h1 h2 h3 h4 h5
      subst k1
      go_enter Try.func109, Try.ntmps109
      go_wp2_with fail
      go_ret
      exact ⟨by rw [hr.out]; rfl, (by repeat (first | exact Below.refl _ _ | refine Below.alloc ?_ (by simp) _ | refine Below.setCell ?_ (by simp) _ | refine Below.drew ?_))⟩
  · have k1b : (k == 1) = false := by simpa using k1
    by_cases k0 : k = 0
    · by_cases hs : n = 0
      · have hr := h3 k1 (.inl k0) hs
        clear h1 h2 h3 h4 h5
        subst k0
        subst hs
        go_enter Try.func109, Try.ntmps109
        go_wp2_with fail
        go_ret
        exact ⟨by rw [hr.out]; rfl, (by repeat (first | exact Below.refl _ _ | refine Below.alloc ?_ (by simp) _ | refine Below.setCell ?_ (by simp) _ | refine Below.drew ?_))⟩
      · have hr := h4 k1 (.inl k0) hs
        clear h1 h2 h3 h4 h5
        subst k0
        go_enter Try.func109, Try.ntmps109
        go_wp2_with fail
        go_ret
        exact ⟨by rw [hr.out]; rfl, (by repeat (first | exact Below.refl _ _ | refine Below.alloc ?_ (by simp) _ | refine Below.setCell ?_ (by simp) _ | refine Below.drew ?_))⟩
    · have k0b : (k == 0) = false := by simpa using k0
      by_cases k2 : k = 2
      · by_cases hs : n = 0
        · have hr := h3 k1 (.inr k2) hs
          clear h1 h2 h3 h4 h5
          subst k2
          subst hs
          go_enter Try.func109, Try.ntmps109
          go_wp2_with fail
          go_ret
          exact ⟨by rw [hr.out]; rfl, (by repeat (first | exact Below.refl _ _ | refine Below.alloc ?_ (by simp) _ | refine Below.setCell ?_ (by simp) _ | refine Below.drew ?_))⟩
        · have hr := h4 k1 (.inr k2) hs
          clear h1 h2 h3 h4 h5
          subst k2
          go_enter Try.func109, Try.ntmps109
          go_wp2_with fail
          go_ret
          exact ⟨by rw [hr.out]; rfl, (by repeat (first | exact Below.refl _ _ | refine Below.alloc ?_ (by simp) _ | refine Below.setCell ?_ (by simp) _ | refine Below.drew ?_))⟩
      · have k2b : (k == 2) = false := by simpa using k2
        have hr := h5 k1 (fun h => h.elim k0 k2)
        clear h1 h2 h3 h4 h5
        by_cases g0 : k < 0
        · go_enter Try.func109, Try.ntmps109
          go_wp2_with fail
          go_ret
          exact ⟨by rw [hr.out]; rfl, (by repeat (first | exact Below.refl _ _ | refine Below.alloc ?_ (by simp) _ | refine Below.setCell ?_ (by simp) _ | refine Below.drew ?_))⟩
        · have g2 : 2 < k := by omega
          go_enter Try.func109, Try.ntmps109
          go_wp2_with fail
          go_ret
          exact ⟨by rw [hr.out]; rfl, (by repeat (first | exact Below.refl _ _ | refine Below.alloc ?_ (by simp) _ | refine Below.setCell ?_ (by simp) _ | refine Below.drew ?_))⟩

set_option maxHeartbeats 400000 in
theorem leafCheckR_any (k : Int) (A : Option Addr) (n c : Nat) (w : World) (hn : n ≤ 140737488355328) :
    Calls Try.prog 106 #[.agg #[.int .i64 k, .slice A n c]] w fun e w' => e = .returned (.int .i64 (checkN k n)) ∧ Below w.heap.size w w' := by
  have h1 : k = 1 → n ≤ 4096 → Hid (checkN k n = 0) := fun h1 h2 => Lib.hid (by unfold checkN; rw [if_pos h1, if_pos h2])
  have h2 : k = 1 → ¬ n ≤ 4096 → Hid (checkN k n = 13) := fun h1 h2 => Lib.hid (by unfold checkN; rw [if_pos h1, if_neg h2])
  have h3 : k ≠ 1 → (k = 0 ∨ k = 2) → n = 0 → Hid (checkN k n = 0) := fun h1 h2 h3 => Lib.hid (by unfold checkN; rw [if_neg h1, if_pos h2, if_pos h3])
  have h4 : k ≠ 1 → (k = 0 ∨ k = 2) → n ≠ 0 → Hid (checkN k n = 2) := fun h1 h2 h3 => Lib.hid (by unfold checkN; rw [if_neg h1, if_pos h2, if_neg h3])
  have h5 : k ≠ 1 → ¬ (k = 0 ∨ k = 2) → Hid (checkN k n = 2) := fun h1 h2 => Lib.hid (by unfold checkN; rw [if_neg h1, if_neg h2])
  generalize checkN k n = r at *
  by_cases k1 : k = 1
  · by_cases hs : n ≤ 4096
    · have hr := h1 k1 hs
      clear h1 h2 h3 h4 h5
      subst k1
      go_enter Try.func106, Try.ntmps106
      go_wp2_with fail
      go_ret
      exact ⟨by rw [hr.out]; rfl, (by repeat (first | exact Below.refl _ _ | refine Below.alloc ?_ (by simp) _ | refine Below.setCell ?_ (by simp) _ | refine Below.drew ?_))⟩
    · have hr := h2 k1 hs
      clear h1 h2 h3 h4 h5
      subst k1
      go_enter Try.func106, Try.ntmps106
      go_wp2_with fail
      go_ret
      exact ⟨by rw [hr.out]; rfl, (by repeat (first | exact Below.refl _ _ | refine Below.alloc ?_ (by simp) _ | refine Below.setCell ?_ (by simp) _ | refine Below.drew ?_))⟩
  · have k1b : (k == 1) = false := by simpa using k1
    by_cases k0 : k = 0
    · by_cases hs : n = 0
      · have hr := h3 k1 (.inl k0) hs
        clear h1 h2 h3 h4 h5
        subst k0
        subst hs
        go_enter Try.func106, Try.ntmps106
        go_wp2_with fail
        go_ret
        exact ⟨by rw [hr.out]; rfl, (by repeat (first | exact Below.refl _ _ | refine Below.alloc ?_ (by simp) _ | refine Below.setCell ?_ (by simp) _ | refine Below.drew ?_))⟩
      · have hr := h4 k1 (.inl k0) hs
        clear h1 h2 h3 h4 h5
        subst k0
        go_enter Try.func106, Try.ntmps106
        go_wp2_with fail
        go_ret
        exact ⟨by rw [hr.out]; rfl, (by repeat (first | exact Below.refl _ _ | refine Below.alloc ?_ (by simp) _ | refine Below.setCell ?_ (by simp) _ | refine Below.drew ?_))⟩
    · have k0b : (k == 0) = false := by simpa using k0
      by_cases k2 : k = 2
      · by_cases hs : n = 0
        · have hr := h3 k1 (.inr k2) hs
          clear h1 h2 h3 h4 h5
          subst k2
          subst hs
          go_enter Try.func106, Try.ntmps106
          go_wp2_with fail
          go_ret
          exact ⟨by rw [hr.out]; rfl, (by repeat (first | exact Below.refl _ _ | refine Below.alloc ?_ (by simp) _ | refine Below.setCell ?_ (by simp) _ | refine Below.drew ?_))⟩
        · have hr := h4 k1 (.inr k2) hs
          clear h1 h2 h3 h4 h5
          subst k2
          go_enter Try.func106, Try.ntmps106
          go_wp2_with fail
          go_ret
          exact ⟨by rw [hr.out]; rfl, (by repeat (first | exact Below.refl _ _ | refine Below.alloc ?_ (by simp) _ | refine Below.setCell ?_ (by simp) _ | refine Below.drew ?_))⟩
      · have k2b : (k == 2) = false := by simpa using k2
        have hr := h5 k1 (fun h => h.elim k0 k2)
        clear h1 h2 h3 h4 h5
        by_cases g0 : k < 0
        · go_enter Try.func106, Try.ntmps106
          go_wp2_with fail
          go_ret
          exact ⟨by rw [hr.out]; rfl, (by repeat (first | exact Below.refl _ _ | refine Below.alloc ?_ (by simp) _ | refine Below.setCell ?_ (by simp) _ | refine Below.drew ?_))⟩
        · have g2 : 2 < k := by omega
          go_enter Try.func106, Try.ntmps106
          go_wp2_with fail
          go_ret
          exact ⟨by rw [hr.out]; rfl, (by repeat (first | exact Below.refl _ _ | refine Below.alloc ?_ (by simp) _ | refine Below.setCell ?_ (by simp) _ | refine Below.drew ?_))⟩

theorem strs_beq (l m : List UInt8) : ((⟨l.toArray⟩ : ByteArray).toList == (⟨m.toArray⟩ : ByteArray).toList) = (l == m) := by
  rw [ByteArray.toList_eq, ByteArray.toList_eq]
theorem equal_any (A B : Option Addr) (c d : Nat) (l m : List UInt8) (Z Z' : Nat → Prop) (w : World) (hl : By w Z A l) (hm : By w Z' B m) :
    Calls Try.prog 143 #[.slice A l.length c, .slice B m.length d] w fun e w' => e = .returned (.bool (l == m)) ∧ w = w' := by
  refine (Try.bytes_Equal_strs _ _ _ _ w (conv_by hl c) (conv_by hm d)).mono ?_
  rintro e w' ⟨rfl, hw⟩
  exact ⟨ret_b (by exact strs_beq l m), hw.symm⟩

set_option maxHeartbeats 400000 in
theorem leafSame_any (k j : Int) (A B : Option Addr) (c d : Nat) (l m : List UInt8) (Z Z' : Nat → Prop) (w : World) (hl : By w Z A l) (hm : By w Z' B m) :
    Calls Try.prog 100 #[.agg #[.int .i64 k, .slice A l.length c], .agg #[.int .i64 j, .slice B m.length d]] w fun e w' => e = .returned (.bool (k == j && l == m)) ∧ Below w.heap.size w w' := by
  by_cases hk : k = j
  · have e1 := Lib.hid (show (k == j && l == m) = (l == m) by rw [show (k == j) = true by simpa using hk]; rfl)
    subst hk
    go_enter Try.func100, Try.ntmps100
    go_wp2_with fail
    refine (equal_any A B c d l m Z Z' _ ((hl.alloc _).alloc _) ((hm.alloc _).alloc _)).mono ?_
    rintro e w1 ⟨rfl, rfl⟩
    go_wp2_with fail
    go_ret
    exact ⟨ret_b e1.out.symm, (by repeat (first | exact Below.refl _ _ | refine Below.alloc ?_ (by simp) _ | refine Below.setCell ?_ (by simp) _ | refine Below.drew ?_))⟩
  · have hb : (k == j) = false := by simpa using hk
    have e1 := Lib.hid (show (k == j && l == m) = false by rw [hb]; rfl)
    go_enter Try.func100, Try.ntmps100
    go_wp2_with fail
    go_ret
    exact ⟨ret_b e1.out.symm, (by repeat (first | exact Below.refl _ _ | refine Below.alloc ?_ (by simp) _ | refine Below.setCell ?_ (by simp) _ | refine Below.drew ?_))⟩

set_option maxHeartbeats 400000 in
theorem leafSameR_any (k j : Int) (A B : Option Addr) (c d : Nat) (l m : List UInt8) (Z Z' : Nat → Prop) (w : World) (hl : By w Z A l) (hm : By w Z' B m) :
    Calls Try.prog 39 #[.agg #[.int .i64 k, .slice A l.length c], .agg #[.int .i64 j, .slice B m.length d]] w fun e w' => e = .returned (.bool (k == j && l == m)) ∧ Below w.heap.size w w' := by
  have k1 := conv_by ((hl.alloc (.cells #[.int .i64 k, .slice A l.length c] 26)).alloc (.cells #[.int .i64 j, .slice B m.length d] 26)) c
  have k2 := conv_by ((hm.alloc (.cells #[.int .i64 k, .slice A l.length c] 26)).alloc (.cells #[.int .i64 j, .slice B m.length d] 26)) d
  by_cases hk : k = j
  · have e1 := Lib.hid (show (k == j && l == m) = (l == m) by rw [show (k == j) = true by simpa using hk]; rfl)
    subst hk
    go_enter Try.func39, Try.ntmps39
    go_wp2_with fail
    go_ret
    exact ⟨ret_b e1.out.symm, (by repeat (first | exact Below.refl _ _ | refine Below.alloc ?_ (by simp) _ | refine Below.setCell ?_ (by simp) _ | refine Below.drew ?_))⟩
  · have hb : (k == j) = false := by simpa using hk
    have e1 := Lib.hid (show (k == j && l == m) = false by rw [hb]; rfl)
    go_enter Try.func39, Try.ntmps39
    go_wp2_with fail
    go_ret
    exact ⟨ret_b e1.out.symm, (by repeat (first | exact Below.refl _ _ | refine Below.alloc ?_ (by simp) _ | refine Below.setCell ?_ (by simp) _ | refine Below.drew ?_))⟩

theorem leafSize_any (k : Int) (A : Option Addr) (n c : Nat) (w : World) :
    Calls Try.prog 114 #[.agg #[.int .i64 k, .slice A n c]] w fun e w' => e = .returned (.int .i64 n) ∧ Below w.heap.size w w' := by
  go_enter Try.func114, Try.ntmps114
  go_wp2_with fail
  go_ret
  exact ⟨rfl, (by repeat (first | exact Below.refl _ _ | refine Below.alloc ?_ (by simp) _ | refine Below.setCell ?_ (by simp) _ | refine Below.drew ?_))⟩
/-- a result of two cells that is stored -/
theorem Blk.two {w : World} {b : Nat} {t : TypeId} {x y x' y' : Value} (h : Blk w b t #[x, y]) :
    Blk ((w.setCell ⟨b, 0, none⟩ x').setCell ⟨b, 1, none⟩ y') b t #[x', y'] ∧ Fr (fun k => k = b) w ((w.setCell ⟨b, 0, none⟩ x').setCell ⟨b, 1, none⟩ y') := by
  refine ⟨?_, ((Fr.refl (fun k => k = b) w).setAt b 0 rfl _).setAt b 1 rfl _⟩
  have := (h.set_ 0 x').set_ 1 y'
  simpa using this
/-- an owned row behind a store of a result -/
theorem OwB.past {w w' : World} {base b : Nat} {t : TypeId} {cs : Array Value} {v : Value} {l : List UInt8} (h : OwB w base v l) (hb : Blk w b t cs) (ht : 5 ≠ t) (k : Fr (fun k => k = b) w w') : OwB w' base v l :=
  h.fr k (fun g hg e => hb.own_ne h ht (by rw [hg, e]))

set_option maxHeartbeats 400000 in
theorem leafClone_any (k : Int) (A : Option Addr) (c : Nat) (l : List UInt8) (Z : Nat → Prop) (w : World) (h : By w Z A l) (hlen : l.length ≤ 140737488355328) :
    Calls Try.prog 84 #[.agg #[.int .i64 k, .slice A l.length c]] w fun e w' => ∃ (A' : Option Addr) (c' : Nat) (l' : List UInt8), e = .returned (.agg #[.int .i64 k, .slice A' l'.length c']) ∧ Hid (l' = l) ∧ OwB w' w.heap.size (.slice A' l'.length c') l' ∧ Below w.heap.size w w' := by
  have b0 := ((Blk.new w 26 #[.int .i64 k, .slice A l.length c]).alloc (.cells #[.int .i64 0, .slice none 0 0] 26))
  have b1 := Blk.new (w.alloc (.cells #[.int .i64 k, .slice A l.length c] 26)) 26 #[.int .i64 0, .slice none 0 0]
  have hz : (w.alloc (.cells #[.int .i64 k, .slice A l.length c] 26)).heap.size = w.heap.size + 1 := by simp
  rw [hz] at b1
  have hy := (h.alloc (.cells #[.int .i64 k, .slice A l.length c] 26)).alloc (.cells #[.int .i64 0, .slice none 0 0] 26)
  have hw : Below w.heap.size w ((w.alloc (.cells #[.int .i64 k, .slice A l.length c] 26)).alloc (.cells #[.int .i64 0, .slice none 0 0] 26)) := (by repeat (first | exact Below.refl _ _ | refine Below.alloc ?_ (by simp) _ | refine Below.setCell ?_ (by simp) _ | refine Below.drew ?_))
  go_enter Try.func84, Try.ntmps84
  go_wp2_with fail
  generalize (w.alloc (.cells #[.int .i64 k, .slice A l.length c] 26)).alloc (.cells #[.int .i64 0, .slice none 0 0] 26) = W at *
  have c0 : W.cell? ⟨w.heap.size, 0, none⟩ = some (.int .i64 k) := b0.cell 0
  have c1 : W.cell? ⟨w.heap.size, 1, none⟩ = some (.slice A l.length c) := b0.cell 1
  go_region_held3 (fun w' => w'.cell? ⟨w.heap.size, 0, none⟩ = some (.int .i64 k) ∧ w'.cell? ⟨w.heap.size, 1, none⟩ = some (.slice A l.length c))
    (first | assumption | exact ⟨c0, c1⟩ | exact ⟨e0, e1⟩ | exact ⟨((hb0.far (by simp) _).far (by simp) _).cell 0, ((hb0.far (by simp) _).far (by simp) _).cell 1⟩)
    (first
    | (go_at_call 133; refine (clone_any A c l Z _ hy.drew hlen).mono ?_; rintro e w1 ⟨A', c', l', rfl, h1, h2, h3⟩; have hb1 : Blk w1 (w.heap.size + 1) 26 #[.int .i64 0, .slice none 0 0] := b1.drew.below h3; have g0 : w1.cell? ⟨w.heap.size + 1, 0, none⟩ = some (.int .i64 0) := hb1.cell 0; have g1 : w1.cell? ⟨w.heap.size + 1, 1, none⟩ = some (.slice none 0 0) := hb1.cell 1; have f0 := hb1.frozen 0; have f1 := hb1.frozen 1; have hb0 : Blk w1 w.heap.size 26 #[.int .i64 k, .slice A l.length c] := b0.drew.below h3; have e0 : w1.cell? ⟨w.heap.size, 0, none⟩ = some (.int .i64 k) := hb0.cell 0; have e1 : w1.cell? ⟨w.heap.size, 1, none⟩ = some (.slice A l.length c) := hb0.cell 1))
  obtain ⟨hb2, hf2⟩ := Blk.two (x' := .int .i64 k) (y' := .slice A' l'.length c') hb1
  have hs1 := hw.size
  have hs3 : W.heap.size ≤ w1.heap.size := h3.size
  have hlow : Below w.heap.size w w1 := hw.drew.trans (h3.mono hs1)
  have ho := h2.past hb1 (by decide) hf2
  clear b0 b1 c0 c1 g0 g1 f0 f1 e0 e1 hb0 hb1
  generalize (w1.setCell ⟨w.heap.size + 1, 0, none⟩ (.int .i64 k)).setCell ⟨w.heap.size + 1, 1, none⟩ (.slice A' l'.length c') = V at *
  have d0 : V.cell? ⟨w.heap.size + 1, 0, none⟩ = some (.int .i64 k) := hb2.cell 0
  have d1 : V.cell? ⟨w.heap.size + 1, 1, none⟩ = some (.slice A' l'.length c') := hb2.cell 1
  go_wp2_with fail
  refine bodyPost_ret (v := .agg #[.int .i64 k, .slice A' l'.length c']) (by simp [results, Try.results84, go_sem, d0, d1]) rfl ?_
  exact ⟨A', c', l', rfl, h1, own_base ho (fun g hg => Nat.le_trans hs1 (h2.lt _ hg).1), hlow.trans (hf2.below (by omega) (by intro k hk e; omega))⟩
/-- a kind's name -/
def kindN (k : Int) : ByteArray := if k = 0 then ⟨#[110, 111, 110, 101]⟩ else if k = 1 then ⟨#[102, 105, 108, 101]⟩ else if k = 2 then ⟨#[100, 105, 114]⟩ else ⟨#[]⟩
end Go.Proofs.Ytdnljmncdbcgeaa

/- The versions of entries: Version, is, Session, Count, and the document's Parts. -/
namespace Go.Proofs.Ytdnljmncdbcgeaa
open Go.RowKit Go.WideShapes Go.ChangeShapes Go.ChangeAt

/-- a good session and count -/
def goodV (s c : Int) : Bool := decide (1 ≤ s) && decide (s ≤ 1099511627776) && decide (1 ≤ c) && decide (c ≤ 1048575)
theorem goodV_iff {s c : Int} : goodV s c = true ↔ 1 ≤ s ∧ s ≤ 1099511627776 ∧ 1 ≤ c ∧ c ≤ 1048575 := by
  unfold goodV; simp [and_assoc]
theorem goodV_not {s c : Int} : goodV s c = false ↔ ¬ (1 ≤ s ∧ s ≤ 1099511627776 ∧ 1 ≤ c ∧ c ≤ 1048575) := by
  rw [← goodV_iff]; simp

theorem or_ver {s c : Int} (h1 : 0 ≤ s) (h2 : s ≤ 1099511627776) (h3 : 0 ≤ c) (h4 : c ≤ 1048575) : bits .or .u64 (s * 1048576) c = s * 1048576 + c := by
  obtain ⟨a, rfl⟩ := Int.eq_ofNat_of_zero_le h1
  obtain ⟨b, rfl⟩ := Int.eq_ofNat_of_zero_le h3
  rw [u64_or _ _ (by omega) (by omega) (by omega) (by omega)]
  have e : ((a : Int) * 1048576).toNat = a * 1048576 := by omega
  rw [e, Int.toNat_natCast, nat_join 20 (a * 1048576) b (by omega) (by omega)]
  omega

set_option maxHeartbeats 400000 in
theorem version_good (s c : Int) (w : World) (h : goodV s c = true) :
    Calls Try.prog 145 #[.int .u64 s, .int .u64 c] w fun e w' => e = .returned (.tuple #[.int .u64 (s * 1048576 + c), .int .i64 0]) ∧ w = w' := by
  obtain ⟨h1, h2, h3, h4⟩ := goodV_iff.1 h
  clear h
  go_enter Try.func145, Try.ntmps145
  go_wp2
  rw [or_ver (by omega) h2 (by omega) h4]
  go_ret2
  exact ⟨rfl, rfl⟩

set_option maxHeartbeats 400000 in
theorem version_bad (s c : Int) (w : World) (h : goodV s c = false) :
    Calls Try.prog 145 #[.int .u64 s, .int .u64 c] w fun e w' => e = .returned (.tuple #[.int .u64 0, .int .i64 2]) ∧ w = w' := by
  have hn := goodV_not.1 h
  clear h
  by_cases h1 : 1 ≤ s
  · by_cases h2 : s ≤ 1099511627776
    · by_cases h3 : 1 ≤ c
      · have h4 : ¬ c ≤ 1048575 := fun h4 => hn ⟨h1, h2, h3, h4⟩
        clear hn
        go_enter Try.func145, Try.ntmps145
        go_wp2
        go_ret2
        exact ⟨rfl, rfl⟩
      · clear hn
        go_enter Try.func145, Try.ntmps145
        go_wp2
        go_ret2
        exact ⟨rfl, rfl⟩
    · clear hn
      go_enter Try.func145, Try.ntmps145
      go_wp2
      go_ret2
      exact ⟨rfl, rfl⟩
  · clear hn
    go_enter Try.func145, Try.ntmps145
    go_wp2
    go_ret2
    exact ⟨rfl, rfl⟩

theorem and_cnt {v : Int} (h0 : 0 ≤ v) (h1 : v < 18446744073709551616) : bits .and .u64 v 1048575 = v % 1048576 :=
  bits_mask .u64 64 (by decide) (fun n a b => by simp [IntKind.wrap, IntKind.bits, IntKind.signed]; omega) 20 (by omega) v h0 h1

/-- is a number a version? -/
def isV (v : Int) : Bool := goodV (v / 1048576) (v % 1048576)


theorem isV_eq {v : Int} (_h : isV v = true) : v / 1048576 * 1048576 + v % 1048576 = v := by omega

set_option maxHeartbeats 400000 in
theorem is_any (v : Int) (w : World) (h0 : 0 ≤ v) (h1 : v < 18446744073709551616) :
    Calls Try.prog 108 #[.int .u64 v] w fun e w' => e = .returned (.bool (isV v)) ∧ w = w' := by
  have hm := and_cnt h0 h1
  cases hv : isV v
  · have HV := Lib.hid hv
    clear hv
    go_enter Try.func108, Try.ntmps108
    go_wp2_with (go_at_call 145; refine (version_bad _ _ _ HV.out).mono ?_; rintro e w' ⟨rfl, rfl⟩)
    go_ret
    exact ⟨rfl, rfl⟩
  · have he := isV_eq hv
    have HV := Lib.hid hv
    clear hv
    go_enter Try.func108, Try.ntmps108
    go_wp2_with (go_at_call 145; refine (version_good _ _ _ HV.out).mono ?_; rintro e w' ⟨rfl, rfl⟩)
    go_ret
    exact ⟨rfl, rfl⟩

def sessV (v : Int) : Int := if isV v then v / 1048576 else 0
def cntV (v : Int) : Int := if isV v then v % 1048576 else 0

set_option maxHeartbeats 400000 in
theorem parts_any (v : Int) (w : World) (h0 : 0 ≤ v) (h1 : v < 18446744073709551616) :
    Calls Try.prog 105 #[.int .u64 v] w fun e w' => e = .returned (.tuple #[.int .u64 (v / 1048576), .int .u64 (v % 1048576), .bool (isV v)]) ∧ w = w' := by
  have e1 : isV v = (decide (1 ≤ v / 1048576) && decide (v / 1048576 ≤ 1099511627776) && decide (1 ≤ v % 1048576)) := by
    unfold isV goodV
    rw [show decide (v % 1048576 ≤ 1048575) = true from by simp; omega, Bool.and_true]
  have E1 := Lib.hid e1
  clear e1
  go_enter Try.func105, Try.ntmps105
  go_wp2
  all_goals
    go_ret3
    exact ⟨ret3b (by rw [E1.out, Bool.eq_iff_iff]; simp; omega), rfl⟩

theorem wrap_u64 (n : Int) : IntKind.u64.wrap n = n % 18446744073709551616 := by simp [IntKind.wrap, IntKind.bits, IntKind.signed]

def verV (s c : Int) : Int := if goodV s c then s * 1048576 + c else 0
def verE (s c : Int) : Int := if goodV s c then 0 else 2

theorem version_any (s c : Int) (w : World) :
    Calls Try.prog 145 #[.int .u64 s, .int .u64 c] w fun e w' => e = .returned (.tuple #[.int .u64 (verV s c), .int .i64 (verE s c)]) ∧ w = w' := by
  cases hv : goodV s c
  · refine (version_bad s c w hv).mono ?_
    rintro e w' ⟨rfl, rfl⟩
    exact ⟨by unfold verV verE; rw [hv]; rfl, rfl⟩
  · refine (version_good s c w hv).mono ?_
    rintro e w' ⟨rfl, rfl⟩
    exact ⟨by unfold verV verE; rw [hv]; rfl, rfl⟩

theorem good_div {s c : Int} (h : goodV s c = true) : (s * 1048576 + c) / 1048576 = s ∧ (s * 1048576 + c) % 1048576 = c := by
  obtain ⟨h1, h2, h3, h4⟩ := goodV_iff.1 h
  omega
theorem good_isV {s c : Int} (h : goodV s c = true) : isV (s * 1048576 + c) = true := by
  unfold isV
  rw [(good_div h).1, (good_div h).2, h]
theorem good_sess {s c : Int} (h : goodV s c = true) : sessV (s * 1048576 + c) = s ∧ cntV (s * 1048576 + c) = c := by
  unfold sessV cntV
  rw [good_isV h, if_pos rfl, if_pos rfl]
  exact good_div h

end Go.Proofs.Ytdnljmncdbcgeaa

/- tenderref03: User. -/
namespace Go.Proofs.Ytdnljmncdbcgeaa
open Go.RowKit

theorem refUser_any (s : ByteArray) (hs : s.size ≤ 9223372036854775807) (w : World) : Calls Try.prog 104 #[.string s] w fun e w' => e = .returned (.bool (userB (tl s))) ∧ Below w.heap.size w w' := by
  have HG := Lib.hid (fun w => refGood_any s hs w)
  cases h : goodB (tl s)
  · have hr : userB (tl s) = false := by unfold userB; rw [h]; rfl
    rw [hr]
    rw [h] at HG
    clear hr h
    go_enter Try.func104, Try.ntmps104
    go_wp2_with fail
    refine (HG.out _).mono ?_
    rintro e w1 ⟨rfl, hb⟩
    go_wp2_with fail
    go_ret
    exact ⟨rfl, hb⟩
  · have h0 : 0 < s.size := by have := List.length_pos_iff.2 (goodB_ne h); rwa [tl_len] at this
    obtain ⟨R, hR⟩ : ∃ R, R = userB (tl s) := ⟨_, rfl⟩
    have HR : Hid (R = !((tl s).head? == some 126)) := by show _ = _; rw [hR]; unfold userB; rw [h]; rfl
    rw [← hR]
    rw [h] at HG
    clear hR h
    go_enter Try.func104, Try.ntmps104
    go_wp2_with fail
    refine (HG.out _).mono ?_
    rintro e w1 ⟨rfl, hb⟩
    go_wp2_with fail
    go_ret
    refine ⟨ret_b ?_, hb⟩
    rw [HR.out]
    have e : (tl s).head? = some s[0] := by
      obtain ⟨⟨l⟩⟩ := s
      cases l with
      | nil => exact (Nat.lt_irrefl 0 h0).elim
      | cons c l => rfl
    rw [e, Bool.eq_iff_iff]
    generalize s[0] = c
    by_cases hc : c = 126
    · subst hc; decide
    · have h2 : ¬ c.toNat = 126 := fun e => hc (UInt8.toNat_inj.1 e)
      simp [hc]
      omega
end Go.Proofs.Ytdnljmncdbcgeaa

/- entry and tenderref21: Check, Same, Newer, Row, Clone. -/
namespace Go.Proofs.Ytdnljmncdbcgeaa
open Go.RowKit

/-- an entry -/
structure EV where
  p : ByteArray
  v : Int
  k : Int
  x : BV
def EV.cells (o : EV) : List Value := [.string o.p, .int .u64 o.v, .int .i64 o.k, .slice o.x.A o.x.l.length o.x.c]
/-- what an answer to 'is an entry right?' is -/
def checkE (p : List UInt8) (v k : Int) (n : Nat) : Int := if userB p = false then 23 else if isV v = false then 2 else checkN k n

set_option maxRecDepth 100000 in
set_option maxHeartbeats 400000 in
theorem entryCheck_any (p : ByteArray) (v k : Int) (A : Option Addr) (n c : Nat) (w : World) (hp : p.size ≤ 9223372036854775807) (hv : 0 ≤ v ∧ v < 18446744073709551616) (hn : n ≤ 140737488355328) :
    Calls Try.prog 53 #[.agg #[.string p, .int .u64 v, .int .i64 k, .slice A n c]] w fun e w' => e = .returned (.int .i64 (checkE (tl p) v k n)) ∧ Below w.heap.size w w' := by
  obtain ⟨R, hR⟩ : ∃ R, R = checkE (tl p) v k n := ⟨_, rfl⟩
  rw [← hR]
  have HU := Lib.hid (fun w => user_any p hp w)
  have HV := Lib.hid (fun w => is_any v w hv.1 hv.2)
  have HL := Lib.hid (fun w => leafCheck_any k A n c w hn)
  cases hu : userB (tl p)
  · have HR : Hid (R = 23) := by show _ = _; rw [hR]; unfold checkE; rw [hu, if_pos rfl]
    rw [hu] at HU
    clear hR hu
    go_enter Try.func53, Try.ntmps53
    go_wp2_with fail
    refine (HU.out _).mono ?_
    rintro e w1 ⟨rfl, hb1⟩
    go_wp2_with fail
    go_ret
    exact ⟨ret_i HR.out.symm, ((Below.refl _ _).alloc (Nat.le_refl _) _).trans (hb1.mono (by simp))⟩
  · rw [hu] at HU
    have b0 := Blk.new w 28 #[.string p, .int .u64 v, .int .i64 k, .slice A n c]
    have hl : Below w.heap.size w (w.alloc (.cells #[.string p, .int .u64 v, .int .i64 k, .slice A n c] 28)) := (Below.refl _ _).alloc (Nat.le_refl _) _
    cases hvv : isV v
    · have HR : Hid (R = 2) := by show _ = _; rw [hR]; unfold checkE; rw [hu, hvv]; rfl
      rw [hvv] at HV
      clear hR hu hvv
      go_enter Try.func53, Try.ntmps53
      go_wp2_with fail
      generalize w.alloc (.cells #[.string p, .int .u64 v, .int .i64 k, .slice A n c] 28) = W at *
      have hs := hl.size
      refine (HU.out _).mono ?_
      rintro e w1 ⟨rfl, hb1⟩
      have b1 := b0.below hb1
      have c1 : w1.cell? ⟨w.heap.size, 1, none⟩ = some (.int .u64 v) := b1.cell 1
      go_wp2_with fail
      refine (HV.out _).mono ?_
      rintro e w2 ⟨rfl, rfl⟩
      go_wp2_with fail
      go_ret
      exact ⟨ret_i HR.out.symm, hl.trans (hb1.mono hs)⟩
    · have HR : Hid (R = checkN k n) := by show _ = _; rw [hR]; unfold checkE; rw [hu, hvv]; rfl
      rw [hvv] at HV
      rw [← HR.out] at HL
      clear hR hu hvv
      go_enter Try.func53, Try.ntmps53
      go_wp2_with fail
      generalize w.alloc (.cells #[.string p, .int .u64 v, .int .i64 k, .slice A n c] 28) = W at *
      have hs := hl.size
      refine (HU.out _).mono ?_
      rintro e w1 ⟨rfl, hb1⟩
      have b1 := b0.below hb1
      have c1 : w1.cell? ⟨w.heap.size, 1, none⟩ = some (.int .u64 v) := b1.cell 1
      have c2 : w1.cell? ⟨w.heap.size, 2, none⟩ = some (.int .i64 k) := b1.cell 2
      have c3 : w1.cell? ⟨w.heap.size, 3, none⟩ = some (.slice A n c) := b1.cell 3
      go_wp2_with fail
      refine (HV.out _).mono ?_
      rintro e w2 ⟨rfl, rfl⟩
      go_wp2_with fail
      refine (HL.out _).mono ?_
      rintro e w3 ⟨rfl, hb3⟩
      go_wp2_with fail
      go_ret
      exact ⟨rfl, hl.trans ((bthen hb1 hb3).mono hs)⟩

set_option maxRecDepth 100000 in
set_option maxHeartbeats 400000 in
theorem refEntryCheck_any (p : ByteArray) (v k : Int) (A : Option Addr) (n c : Nat) (w : World) (hp : p.size ≤ 9223372036854775807) (hv : 0 ≤ v ∧ v < 18446744073709551616) (hn : n ≤ 140737488355328) :
    Calls Try.prog 50 #[.agg #[.string p, .int .u64 v, .int .i64 k, .slice A n c]] w fun e w' => e = .returned (.int .i64 (checkE (tl p) v k n)) ∧ Below w.heap.size w w' := by
  obtain ⟨R, hR⟩ : ∃ R, R = checkE (tl p) v k n := ⟨_, rfl⟩
  rw [← hR]
  have HU := Lib.hid (fun w => refUser_any p hp w)
  have HV := Lib.hid (fun w => parts_any v w hv.1 hv.2)
  have HL := Lib.hid (fun w => leafCheckR_any k A n c w hn)
  cases hu : userB (tl p)
  · have HR : Hid (R = 23) := by show _ = _; rw [hR]; unfold checkE; rw [hu, if_pos rfl]
    rw [hu] at HU
    clear hR hu
    go_enter Try.func50, Try.ntmps50
    go_wp2_with fail
    refine (HU.out _).mono ?_
    rintro e w1 ⟨rfl, hb1⟩
    go_wp2_with fail
    go_ret
    exact ⟨ret_i HR.out.symm, ((Below.refl _ _).alloc (Nat.le_refl _) _).trans (hb1.mono (by simp))⟩
  · rw [hu] at HU
    have b0 := Blk.new w 28 #[.string p, .int .u64 v, .int .i64 k, .slice A n c]
    have hl : Below w.heap.size w (w.alloc (.cells #[.string p, .int .u64 v, .int .i64 k, .slice A n c] 28)) := (Below.refl _ _).alloc (Nat.le_refl _) _
    cases hvv : isV v
    · have HR : Hid (R = 2) := by show _ = _; rw [hR]; unfold checkE; rw [hu, hvv]; rfl
      rw [hvv] at HV
      clear hR hu hvv
      go_enter Try.func50, Try.ntmps50
      go_wp2_with fail
      generalize w.alloc (.cells #[.string p, .int .u64 v, .int .i64 k, .slice A n c] 28) = W at *
      have hs := hl.size
      refine (HU.out _).mono ?_
      rintro e w1 ⟨rfl, hb1⟩
      have b1 := b0.below hb1
      have c1 : w1.cell? ⟨w.heap.size, 1, none⟩ = some (.int .u64 v) := b1.cell 1
      go_wp2_with fail
      refine (HV.out _).mono ?_
      rintro e w2 ⟨rfl, rfl⟩
      go_wp2_with fail
      go_ret
      exact ⟨ret_i HR.out.symm, hl.trans (hb1.mono hs)⟩
    · have HR : Hid (R = checkN k n) := by show _ = _; rw [hR]; unfold checkE; rw [hu, hvv]; rfl
      rw [hvv] at HV
      rw [← HR.out] at HL
      clear hR hu hvv
      go_enter Try.func50, Try.ntmps50
      go_wp2_with fail
      generalize w.alloc (.cells #[.string p, .int .u64 v, .int .i64 k, .slice A n c] 28) = W at *
      have hs := hl.size
      refine (HU.out _).mono ?_
      rintro e w1 ⟨rfl, hb1⟩
      have b1 := b0.below hb1
      have c1 : w1.cell? ⟨w.heap.size, 1, none⟩ = some (.int .u64 v) := b1.cell 1
      have c2 : w1.cell? ⟨w.heap.size, 2, none⟩ = some (.int .i64 k) := b1.cell 2
      have c3 : w1.cell? ⟨w.heap.size, 3, none⟩ = some (.slice A n c) := b1.cell 3
      go_wp2_with fail
      refine (HV.out _).mono ?_
      rintro e w2 ⟨rfl, rfl⟩
      go_wp2_with fail
      refine (HL.out _).mono ?_
      rintro e w3 ⟨rfl, hb3⟩
      go_wp2_with fail
      go_ret
      exact ⟨rfl, hl.trans ((bthen hb1 hb3).mono hs)⟩
/-- are two the same? -/
def sameE (p q : List UInt8) (v u k j : Int) (l m : List UInt8) : Bool := p == q && v == u && (k == j && l == m)


set_option maxRecDepth 100000 in
set_option maxHeartbeats 400000 in
theorem entrySame_any (p q : ByteArray) (v u k j : Int) (A B : Option Addr) (c d : Nat) (l m : List UInt8) (Z Z' : Nat → Prop) (w : World) (hl : By w Z A l) (hm : By w Z' B m) :
    Calls Try.prog 76 #[.agg #[.string p, .int .u64 v, .int .i64 k, .slice A l.length c], .agg #[.string q, .int .u64 u, .int .i64 j, .slice B m.length d]] w fun e w' => e = .returned (.bool (sameE (tl p) (tl q) v u k j l m)) ∧ Below w.heap.size w w' := by
  obtain ⟨R, hR⟩ : ∃ R, R = sameE (tl p) (tl q) v u k j l m := ⟨_, rfl⟩
  rw [← hR]
  have hl2 := (hl.alloc (.cells #[.string p, .int .u64 v, .int .i64 k, .slice A l.length c] 28)).alloc (.cells #[.string q, .int .u64 u, .int .i64 j, .slice B m.length d] 28)
  have hm2 := (hm.alloc (.cells #[.string p, .int .u64 v, .int .i64 k, .slice A l.length c] 28)).alloc (.cells #[.string q, .int .u64 u, .int .i64 j, .slice B m.length d] 28)
  have HL := Lib.hid (leafSame_any k j A B c d l m Z Z' _ hl2 hm2)
  by_cases hpq : p = q
  · by_cases hvu : v = u
    · have HR : Hid (R = (k == j && l == m)) := by show _ = _; rw [hR]; unfold sameE; rw [hpq, hvu]; simp
      have e1 := eq_yes hpq
      have e2 : (v == u) = true := by simpa using hvu
      rw [← HR.out] at HL
      subst hvu
      clear hR hpq hl2 hm2
      go_enter Try.func76, Try.ntmps76
      go_wp2_with fail
      refine HL.out.mono ?_
      rintro e w1 ⟨rfl, hb1⟩
      go_wp2_with fail
      go_ret
      exact ⟨rfl, (((Below.refl _ _).alloc (Nat.le_refl _) _).alloc (by simp) _).trans (hb1.mono (by simp; omega))⟩
    · have HR : Hid (R = false) := by show _ = _; rw [hR]; unfold sameE; rw [show (v == u) = false by simpa using hvu]; simp
      have e1 := eq_yes hpq
      have e2 : (v == u) = false := by simpa using hvu
      clear hR hpq hl2 hm2 HL
      go_enter Try.func76, Try.ntmps76
      go_wp2_with fail
      go_ret
      exact ⟨ret_b HR.out.symm, (by repeat (first | exact Below.refl _ _ | refine Below.alloc ?_ (by simp) _ | refine Below.setCell ?_ (by simp) _ | refine Below.drew ?_))⟩
  · have HR : Hid (R = false) := by show _ = _; rw [hR]; unfold sameE; rw [show (tl p == tl q) = false by simp only [beq_eq_false_iff_ne, ne_eq]; exact fun e => hpq (tl_inj e)]; simp
    have e1 := eq_no hpq
    clear hR hpq hl2 hm2 HL
    go_enter Try.func76, Try.ntmps76
    go_wp2_with fail
    go_ret
    exact ⟨ret_b HR.out.symm, (by repeat (first | exact Below.refl _ _ | refine Below.alloc ?_ (by simp) _ | refine Below.setCell ?_ (by simp) _ | refine Below.drew ?_))⟩


set_option maxRecDepth 100000 in
set_option maxHeartbeats 400000 in
theorem refEntrySame_any (p q : ByteArray) (v u k j : Int) (A B : Option Addr) (c d : Nat) (l m : List UInt8) (Z Z' : Nat → Prop) (w : World) (hl : By w Z A l) (hm : By w Z' B m) :
    Calls Try.prog 19 #[.agg #[.string p, .int .u64 v, .int .i64 k, .slice A l.length c], .agg #[.string q, .int .u64 u, .int .i64 j, .slice B m.length d]] w fun e w' => e = .returned (.bool (sameE (tl p) (tl q) v u k j l m)) ∧ Below w.heap.size w w' := by
  obtain ⟨R, hR⟩ : ∃ R, R = sameE (tl p) (tl q) v u k j l m := ⟨_, rfl⟩
  rw [← hR]
  have hl2 := (hl.alloc (.cells #[.string p, .int .u64 v, .int .i64 k, .slice A l.length c] 28)).alloc (.cells #[.string q, .int .u64 u, .int .i64 j, .slice B m.length d] 28)
  have hm2 := (hm.alloc (.cells #[.string p, .int .u64 v, .int .i64 k, .slice A l.length c] 28)).alloc (.cells #[.string q, .int .u64 u, .int .i64 j, .slice B m.length d] 28)
  have HL := Lib.hid (leafSameR_any k j A B c d l m Z Z' _ hl2 hm2)
  by_cases hpq : p = q
  · by_cases hvu : v = u
    · have HR : Hid (R = (k == j && l == m)) := by show _ = _; rw [hR]; unfold sameE; rw [hpq, hvu]; simp
      have e1 := eq_yes hpq
      have e2 : (v == u) = true := by simpa using hvu
      rw [← HR.out] at HL
      subst hvu
      clear hR hpq hl2 hm2
      go_enter Try.func19, Try.ntmps19
      go_wp2_with fail
      refine HL.out.mono ?_
      rintro e w1 ⟨rfl, hb1⟩
      go_wp2_with fail
      go_ret
      exact ⟨rfl, (((Below.refl _ _).alloc (Nat.le_refl _) _).alloc (by simp) _).trans (hb1.mono (by simp; omega))⟩
    · have HR : Hid (R = false) := by show _ = _; rw [hR]; unfold sameE; rw [show (v == u) = false by simpa using hvu]; simp
      have e1 := eq_yes hpq
      have e2 : (v == u) = false := by simpa using hvu
      clear hR hpq hl2 hm2 HL
      go_enter Try.func19, Try.ntmps19
      go_wp2_with fail
      go_ret
      exact ⟨ret_b HR.out.symm, (by repeat (first | exact Below.refl _ _ | refine Below.alloc ?_ (by simp) _ | refine Below.setCell ?_ (by simp) _ | refine Below.drew ?_))⟩
  · have HR : Hid (R = false) := by show _ = _; rw [hR]; unfold sameE; rw [show (tl p == tl q) = false by simp only [beq_eq_false_iff_ne, ne_eq]; exact fun e => hpq (tl_inj e)]; simp
    have e1 := eq_no hpq
    clear hR hpq hl2 hm2 HL
    go_enter Try.func19, Try.ntmps19
    go_wp2_with fail
    go_ret
    exact ⟨ret_b HR.out.symm, (by repeat (first | exact Below.refl _ _ | refine Below.alloc ?_ (by simp) _ | refine Below.setCell ?_ (by simp) _ | refine Below.drew ?_))⟩

set_option maxRecDepth 100000 in
theorem entryNewer_any (p q : ByteArray) (v u k j : Int) (x y : Value) (w : World) :
    Calls Try.prog 55 #[.agg #[.string p, .int .u64 v, .int .i64 k, x], .agg #[.string q, .int .u64 u, .int .i64 j, y]] w fun e w' => e = .returned (.bool (decide (u < v))) ∧ Below w.heap.size w w' := by
  go_enter Try.func55, Try.ntmps55
  go_wp2_with fail
  go_ret
  exact ⟨rfl, (by repeat (first | exact Below.refl _ _ | refine Below.alloc ?_ (by simp) _ | refine Below.setCell ?_ (by simp) _ | refine Below.drew ?_))⟩
end Go.Proofs.Ytdnljmncdbcgeaa

/- tenderlaw21: Light. -/
namespace Go.Proofs.Ytdnljmncdbcgeaa
open Go.RowKit

/-- what is known of an entry -/
structure EV.ok (w : World) (Z : Nat → Prop) (o : EV) : Prop where
  x : o.x.ok w Z
  len : o.x.l.length ≤ 140737488355328
  p : o.p.size ≤ 140737488355328
  v : 0 ≤ o.v ∧ o.v < 18446744073709551616
  k : -9223372036854775808 ≤ o.k ∧ o.k < 9223372036854775808
theorem EV.ok.fr {w w' : World} {Z S : Nat → Prop} {o : EV} (h : o.ok w Z) (k : Fr S w w') (hs : ∀ b, b < w.heap.size → Z b → ¬ S b) : o.ok w' Z := ⟨h.x.fr k hs, h.len, h.p, h.v, h.k⟩
theorem EV.ok.below {w w' : World} {Z : Nat → Prop} {o : EV} (h : o.ok w Z) (k : Below w.heap.size w w') : o.ok w' Z := h.fr (Fr.of_below k (fun _ => False)) (fun _ _ _ h => h)
theorem EV.ok.mono {w : World} {Z Z' : Nat → Prop} {o : EV} (h : o.ok w Z) (hz : ∀ b, b < w.heap.size → Z b → Z' b) : o.ok w Z' := ⟨h.x.mono hz, h.len, h.p, h.v, h.k⟩
/-- entries in a slice -/
structure Ents (w : World) (Z : Nat → Prop) (A : Option Addr) (l : List EV) : Prop where
  rd : Rd w Z 4 A l.length (l.flatMap EV.cells)
  ok : ∀ o ∈ l, o.ok w Z
  len : l.length ≤ 140737488355328
theorem Ents.fr {w w' : World} {Z S : Nat → Prop} {A : Option Addr} {l : List EV} (h : Ents w Z A l) (k : Fr S w w') (hs : ∀ b, b < w.heap.size → Z b → ¬ S b) : Ents w' Z A l :=
  ⟨h.rd.fr k hs, fun o ho => (h.ok o ho).fr k hs, h.len⟩
theorem Ents.below {w w' : World} {Z : Nat → Prop} {A : Option Addr} {l : List EV} (h : Ents w Z A l) (k : Below w.heap.size w w') : Ents w' Z A l := h.fr (Fr.of_below k (fun _ => False)) (fun _ _ _ h => h)
theorem ent_at {w : World} {Z : Nat → Prop} {A : Option Addr} {l : List EV} {i : Nat} (h : Rd w Z 4 A l.length (l.flatMap EV.cells)) (hi : i < l.length) :
    ∃ b off, A = some ⟨b, off, none⟩ ∧ Z b ∧ b < w.heap.size ∧ w.cell? ⟨b, off + i * 4, none⟩ = some (.string l[i].p) ∧ w.cell? ⟨b, off + i * 4 + 1, none⟩ = some (.int .u64 l[i].v) ∧
      w.cell? ⟨b, off + i * 4 + 2, none⟩ = some (.int .i64 l[i].k) ∧ w.cell? ⟨b, off + i * 4 + 3, none⟩ = some (.slice l[i].x.A l[i].x.l.length l[i].x.c) := by
  obtain ⟨b, off, hA, hz, hb, hc⟩ := h.2 (by omega)
  have hg : ∀ j, j < 4 → (l.flatMap EV.cells)[i * 4 + j]? = (EV.cells l[i])[j]? := fun j hj => flat_get (k := 4) (fun _ => rfl) l i j hi hj
  refine ⟨b, off, hA, hz, hb, ?_, ?_, ?_, ?_⟩
  · exact hc _ _ (hg 0 (by omega))
  · rw [Nat.add_assoc]; exact hc _ _ (hg 1 (by omega))
  · rw [Nat.add_assoc]; exact hc _ _ (hg 2 (by omega))
  · rw [Nat.add_assoc]; exact hc _ _ (hg 3 (by omega))
def lenE (o : EV) : Nat := o.p.size + o.x.l.length
def lensE (l : List EV) : Nat := (l.map lenE).sum
def lightE (l : List EV) : Bool := decide (lensE l ≤ 20000) && decide (l.length ≤ 400)
theorem lensE_take (l : List EV) (i : Nat) (hi : i < l.length) : lensE (l.take (i + 1)) = lensE (l.take i) + lenE l[i] := by
  unfold lensE
  rw [List.take_succ_eq_append_getElem hi, List.map_append, List.sum_append]
  simp
theorem lensE_le (K : Nat) : ∀ (l : List EV), (∀ o ∈ l, lenE o ≤ K) → lensE l ≤ l.length * K
  | [], _ => by simp [lensE]
  | o :: l, h => by
    have h1 := h o (by simp)
    have h2 := lensE_le K l (fun o ho => h o (by simp [ho]))
    simp only [lensE, List.map_cons, List.sum_cons, List.length_cons, Nat.add_mul] at h2 ⊢
    omega
theorem lensE_take_le (K : Nat) (l : List EV) (i : Nat) (h : ∀ o ∈ l, lenE o ≤ K) : lensE (l.take i) ≤ i * K := by
  have h1 := lensE_le K (l.take i) (fun o ho => h o (List.mem_of_mem_take ho))
  have h2 : (l.take i).length ≤ i := List.length_take_le _ _
  have h3 : (l.take i).length * K ≤ i * K := Nat.mul_le_mul_right _ h2
  omega
/-- the sum that Light has made: right while few have been seen -/
def SeenE (l : List EV) (i : Nat) (s : Int) : Prop := i ≤ 400 → s = (lensE (l.take i) : Int)
theorem seenE_step {l : List EV} {i : Nat} {s : Int} (hs : SeenE l i s) (hi : i < l.length) (h : ∀ o ∈ l, lenE o ≤ 281474976710656) : SeenE l (i + 1) (wrap64 (s + (lenE l[i] : Int))) := by
  intro hi2
  have e := hs (by omega)
  have h1 := lensE_take_le 281474976710656 l (i + 1) h
  have h2 := lensE_take l i hi
  have h3 : (i + 1) * 281474976710656 ≤ 401 * 281474976710656 := Nat.mul_le_mul_right _ (by omega)
  rw [h2] at h1 ⊢
  rw [e, IntWalk.wrap64_in _ ⟨by omega, by omega⟩]
  omega

set_option maxRecDepth 100000 in
set_option maxHeartbeats 400000 in
theorem lightE_any (A : Option Addr) (c : Nat) (l : List EV) (Z : Nat → Prop) (w : World) (h : Ents w Z A l) :
    Calls Try.prog 11 #[.slice A l.length c] w fun e w' => e = .returned (.bool (lightE l)) ∧ Below w.heap.size w w' := by
  have hlen := h.len
  go_enter Try.func11, Try.ntmps11
  go_wp2_with fail
  go_loopw [3, 8] (fun sv iv wr => ∃ (i : Nat) (s : Int), i ≤ l.length ∧ iv = .int .i64 (i : Int) ∧ sv = .int .i64 s ∧ SeenE l i s ∧ Below w.heap.size w wr) (fun _ iv _ => l.length - (intOf iv).toNat)
  case atStart => exact ⟨0, 0, Nat.zero_le _, rfl, rfl, by intro _; simp [lensE], Below.refl _ _⟩
  case round =>
    obtain ⟨i, s, hi, rfl, rfl, hs, hb⟩ := hrel
    by_cases hlt : i < l.length
    · obtain ⟨b, off, rfl, hz, hbb, hc0, hc1, hc2, hc3⟩ := ent_at (h.rd.below hb) hlt
      have hsz := hb.size
      have hok := h.ok _ (List.getElem_mem hlt)
      have hxl := hok.len
      have hpl := hok.p
      have hst := Lib.hid (seenE_step hs hlt (fun o ho => by have h1 := (h.ok o ho).len; have h2 := (h.ok o ho).p; unfold lenE; omega))
      have hle : lenE l[i] = l[i].p.size + l[i].x.l.length := rfl
      rw [hle] at hst
      clear hle hok
      generalize l[i] = o at *
      obtain ⟨p, v, k, xA, xc, xl⟩ := o
      dsimp only at *
      go_wp2_with fail
      go_roundw
      case rel => exact ⟨i + 1, _, hlt, by go_num, rfl, by have := hst.out; push_cast at this; exact this, (hb.alloc hsz _)⟩
      case measure => simp [intOf]; omega
    · have e : i = l.length := by omega
      subst e
      by_cases h2 : l.length ≤ 400
      · have hss := hs h2
        rw [List.take_length] at hss
        subst hss
        go_wp2
        all_goals
          go_ret
          exact ⟨ret_b (by unfold lightE; rw [Bool.eq_iff_iff]; simp; omega), hb⟩
      · go_wp2
        all_goals
          go_ret
          exact ⟨ret_b (by unfold lightE; rw [Bool.eq_iff_iff]; simp; omega), hb⟩
end Go.Proofs.Ytdnljmncdbcgeaa

/- entry.Row, Clone. -/
namespace Go.Proofs.Ytdnljmncdbcgeaa
open Go.RowKit

/-- an entry's row as a value -/
abbrev rowV (p : ByteArray) (k v : Int) (n : Nat) : Value := .agg #[.string p, .int .i64 k, .int .u64 v, .int .u64 0, .int .i64 n]

set_option maxRecDepth 100000 in
set_option maxHeartbeats 1000000 in
theorem entryRow_any (p : ByteArray) (v k : Int) (A : Option Addr) (n c : Nat) (w : World) :
    Calls Try.prog 61 #[.agg #[.string p, .int .u64 v, .int .i64 k, .slice A n c]] w fun e w' => e = .returned (rowV p k v n) ∧ Below w.heap.size w w' := by
  have b0 := (Blk.new w 28 #[.string p, .int .u64 v, .int .i64 k, .slice A n c]).alloc (.cells #[.string ⟨#[]⟩, .int .i64 0, .int .u64 0, .int .u64 0, .int .i64 0] 52)
  have b1 := Blk.new (w.alloc (.cells #[.string p, .int .u64 v, .int .i64 k, .slice A n c] 28)) 52 #[.string ⟨#[]⟩, .int .i64 0, .int .u64 0, .int .u64 0, .int .i64 0]
  rw [World.size_alloc] at b1
  have hw : Below w.heap.size w ((w.alloc (.cells #[.string p, .int .u64 v, .int .i64 k, .slice A n c] 28)).alloc (.cells #[.string ⟨#[]⟩, .int .i64 0, .int .u64 0, .int .u64 0, .int .i64 0] 52)) := (by repeat (first | exact Below.refl _ _ | refine Below.alloc ?_ (by simp) _ | refine Below.setCell ?_ (by simp) _ | refine Below.drew ?_))
  go_enter Try.func61, Try.ntmps61
  go_wp2_with fail
  generalize (w.alloc (.cells #[.string p, .int .u64 v, .int .i64 k, .slice A n c] 28)).alloc (.cells #[.string ⟨#[]⟩, .int .i64 0, .int .u64 0, .int .u64 0, .int .i64 0] 52) = W at *
  have c0 : W.cell? ⟨w.heap.size, 0, none⟩ = some (.string p) := b0.cell 0
  have c1 : W.cell? ⟨w.heap.size, 1, none⟩ = some (.int .u64 v) := b0.cell 1
  have c2 : W.cell? ⟨w.heap.size, 2, none⟩ = some (.int .i64 k) := b0.cell 2
  have c3 : W.cell? ⟨w.heap.size, 3, none⟩ = some (.slice A n c) := b0.cell 3
  have cd : W.drew.cell? ⟨w.heap.size, 0, none⟩ = some (.string p) ∧ W.drew.cell? ⟨w.heap.size, 1, none⟩ = some (.int .u64 v) ∧ W.drew.cell? ⟨w.heap.size, 2, none⟩ = some (.int .i64 k) ∧ W.drew.cell? ⟨w.heap.size, 3, none⟩ = some (.slice A n c) := ⟨c0, c1, c2, c3⟩
  go_region_held3 (fun w' => w'.cell? ⟨w.heap.size, 0, none⟩ = some (.string p) ∧ w'.cell? ⟨w.heap.size, 1, none⟩ = some (.int .u64 v) ∧ w'.cell? ⟨w.heap.size, 2, none⟩ = some (.int .i64 k) ∧ w'.cell? ⟨w.heap.size, 3, none⟩ = some (.slice A n c))
    (first | (with_reducible assumption) | (with_reducible exact cd) | exact ⟨(((((hb0.far (by simp) _).far (by simp) _).far (by simp) _).far (by simp) _).far (by simp) _).cell 0, (((((hb0.far (by simp) _).far (by simp) _).far (by simp) _).far (by simp) _).far (by simp) _).cell 1, (((((hb0.far (by simp) _).far (by simp) _).far (by simp) _).far (by simp) _).far (by simp) _).cell 2, (((((hb0.far (by simp) _).far (by simp) _).far (by simp) _).far (by simp) _).far (by simp) _).cell 3⟩)
    (first
    | (go_at_call 114; refine (leafSize_any k A n c _).mono ?_; rintro e w1 ⟨rfl, h3⟩; have hb1 : Blk w1 (w.heap.size + 1) 52 #[.string ⟨#[]⟩, .int .i64 0, .int .u64 0, .int .u64 0, .int .i64 0] := b1.drew.below h3; have g0 : w1.cell? ⟨w.heap.size + 1, 0, none⟩ = some (.string ⟨#[]⟩) := hb1.cell 0; have g1 : w1.cell? ⟨w.heap.size + 1, 1, none⟩ = some (.int .i64 0) := hb1.cell 1; have g2 : w1.cell? ⟨w.heap.size + 1, 2, none⟩ = some (.int .u64 0) := hb1.cell 2; have g3 : w1.cell? ⟨w.heap.size + 1, 3, none⟩ = some (.int .u64 0) := hb1.cell 3; have g4 : w1.cell? ⟨w.heap.size + 1, 4, none⟩ = some (.int .i64 0) := hb1.cell 4; have f0 := hb1.frozen 0; have f1 := hb1.frozen 1; have f2 := hb1.frozen 2; have f3 := hb1.frozen 3; have f4 := hb1.frozen 4; have hb0 : Blk w1 w.heap.size 28 #[.string p, .int .u64 v, .int .i64 k, .slice A n c] := b0.drew.below h3; have ed : w1.cell? ⟨w.heap.size, 0, none⟩ = some (.string p) ∧ w1.cell? ⟨w.heap.size, 1, none⟩ = some (.int .u64 v) ∧ w1.cell? ⟨w.heap.size, 2, none⟩ = some (.int .i64 k) ∧ w1.cell? ⟨w.heap.size, 3, none⟩ = some (.slice A n c) := ⟨hb0.cell 0, hb0.cell 1, hb0.cell 2, hb0.cell 3⟩))
  have hs1 := hw.size
  have hlow : Below w.heap.size w w1 := hw.drew.trans (h3.mono hs1)
  have hb2 := ((((hb1.set_ 0 (.string p)).set_ 1 (.int .i64 k)).set_ 2 (.int .u64 v)).set_ 3 (.int .u64 0)).set_ 4 (.int .i64 (n : Int))
  have hf2 : Fr (fun x => x = w.heap.size + 1) w1 (((((w1.setCell ⟨w.heap.size + 1, 0, none⟩ (.string p)).setCell ⟨w.heap.size + 1, 1, none⟩ (.int .i64 k)).setCell ⟨w.heap.size + 1, 2, none⟩ (.int .u64 v)).setCell ⟨w.heap.size + 1, 3, none⟩ (.int .u64 0)).setCell ⟨w.heap.size + 1, 4, none⟩ (.int .i64 (n : Int))) := (((((Fr.refl (fun x => x = w.heap.size + 1) w1).setAt _ 0 rfl _).setAt _ 1 rfl _).setAt _ 2 rfl _).setAt _ 3 rfl _).setAt _ 4 rfl _
  clear b0 b1 c0 c1 c2 c3 g0 g1 g2 g3 g4 f0 f1 f2 f3 f4 ed cd hb0 hb1
  have d0 := hb2.cell 0
  have d1 := hb2.cell 1
  have d2 := hb2.cell 2
  have d3 := hb2.cell 3
  have d4 := hb2.cell 4
  simp at d0 d1 d2 d3 d4
  have hlow2 := hlow.trans (hf2.below (B := w.heap.size) (by have := h3.size; simp at this; omega) (by intro k hk e; omega))
  clear hb2 hf2 hlow
  generalize ((((w1.setCell ⟨w.heap.size + 1, 0, none⟩ (.string p)).setCell ⟨w.heap.size + 1, 1, none⟩ (.int .i64 k)).setCell ⟨w.heap.size + 1, 2, none⟩ (.int .u64 v)).setCell ⟨w.heap.size + 1, 3, none⟩ (.int .u64 0)).setCell ⟨w.heap.size + 1, 4, none⟩ (.int .i64 (n : Int)) = V at *
  go_wp2_with fail
  refine bodyPost_ret (v := rowV p k v n) (by simp [results, Try.results61, go_sem, d0, d1, d2, d3, d4]) rfl ?_
  exact ⟨rfl, hlow2⟩

set_option maxRecDepth 100000 in
set_option maxHeartbeats 1000000 in
theorem entryClone_any (p : ByteArray) (v k : Int) (A : Option Addr) (c : Nat) (l : List UInt8) (Z : Nat → Prop) (w : World) (h : By w Z A l) (hlen : l.length ≤ 140737488355328) :
    Calls Try.prog 57 #[.agg #[.string p, .int .u64 v, .int .i64 k, .slice A l.length c]] w fun e w' => ∃ (A' : Option Addr) (c' : Nat) (l' : List UInt8), e = .returned (.agg #[.string p, .int .u64 v, .int .i64 k, .slice A' l'.length c']) ∧ Hid (l' = l) ∧ OwB w' w.heap.size (.slice A' l'.length c') l' ∧ Below w.heap.size w w' := by
  have b0 := (Blk.new w 28 #[.string p, .int .u64 v, .int .i64 k, .slice A l.length c]).alloc (.cells #[.string ⟨#[]⟩, .int .u64 0, .int .i64 0, .slice none 0 0] 28)
  have b1 := Blk.new (w.alloc (.cells #[.string p, .int .u64 v, .int .i64 k, .slice A l.length c] 28)) 28 #[.string ⟨#[]⟩, .int .u64 0, .int .i64 0, .slice none 0 0]
  rw [World.size_alloc] at b1
  have hw : Below w.heap.size w ((w.alloc (.cells #[.string p, .int .u64 v, .int .i64 k, .slice A l.length c] 28)).alloc (.cells #[.string ⟨#[]⟩, .int .u64 0, .int .i64 0, .slice none 0 0] 28)) := (by repeat (first | exact Below.refl _ _ | refine Below.alloc ?_ (by simp) _ | refine Below.setCell ?_ (by simp) _ | refine Below.drew ?_))
  have hy := (h.alloc (.cells #[.string p, .int .u64 v, .int .i64 k, .slice A l.length c] 28)).alloc (.cells #[.string ⟨#[]⟩, .int .u64 0, .int .i64 0, .slice none 0 0] 28)
  have hz : ((w.alloc (.cells #[.string p, .int .u64 v, .int .i64 k, .slice A l.length c] 28)).alloc (.cells #[.string ⟨#[]⟩, .int .u64 0, .int .i64 0, .slice none 0 0] 28)).heap.size = w.heap.size + 2 := by simp
  go_enter Try.func57, Try.ntmps57
  go_wp2_with fail
  generalize (w.alloc (.cells #[.string p, .int .u64 v, .int .i64 k, .slice A l.length c] 28)).alloc (.cells #[.string ⟨#[]⟩, .int .u64 0, .int .i64 0, .slice none 0 0] 28) = W at *
  have hs := hw.size
  refine (leafClone_any k A c l Z W hy hlen).mono ?_
  rintro e w1 ⟨A', c', l', rfl, hl', ho, hb⟩
  have hb0 := b0.below hb
  have hb1 := b1.below hb
  have hlow : Below w.heap.size w w1 := hw.trans (hb.mono hs)
  have hsw1 := hb.size
  have g0 : w1.cell? ⟨w.heap.size, 0, none⟩ = some (.string p) := hb0.cell 0
  have g1 : w1.cell? ⟨w.heap.size, 1, none⟩ = some (.int .u64 v) := hb0.cell 1
  have g2 : w1.cell? ⟨w.heap.size, 2, none⟩ = some (.int .i64 k) := hb0.cell 2
  have g3 : w1.cell? ⟨w.heap.size, 3, none⟩ = some (.slice A l.length c) := hb0.cell 3
  have f2 := hb0.frozen 2
  have f3 := hb0.frozen 3
  have hb2 := (hb0.set_ 2 (.int .i64 k)).set_ 3 (.slice A' l'.length c')
  have hf2 : Fr (fun x => x = w.heap.size) w1 ((w1.setCell ⟨w.heap.size, 2, none⟩ (.int .i64 k)).setCell ⟨w.heap.size, 3, none⟩ (.slice A' l'.length c')) := ((Fr.refl (fun x => x = w.heap.size) w1).setAt _ 2 rfl _).setAt _ 3 rfl _
  have k0 : w1.cell? ⟨w.heap.size + 1, 0, none⟩ = some (.string ⟨#[]⟩) := hb1.cell 0
  have k1 : w1.cell? ⟨w.heap.size + 1, 1, none⟩ = some (.int .u64 0) := hb1.cell 1
  have k2 : w1.cell? ⟨w.heap.size + 1, 2, none⟩ = some (.int .i64 0) := hb1.cell 2
  have k3 : w1.cell? ⟨w.heap.size + 1, 3, none⟩ = some (.slice none 0 0) := hb1.cell 3
  have m0 := hb1.frozen 0
  have m1 := hb1.frozen 1
  have m2 := hb1.frozen 2
  have m3 := hb1.frozen 3
  go_wp2_with fail
  have hb12 := (((((hb1.far (p := ⟨w.heap.size, 2, none⟩) (by simp) (.int .i64 k)).far (p := ⟨w.heap.size, 3, none⟩) (by simp) (.slice A' l'.length c')).set_ 0 (.string p)).set_ 1 (.int .u64 v)).set_ 2 (.int .i64 k)).set_ 3 (.slice A' l'.length c')
  have hf3 : Fr (fun x => x = w.heap.size ∨ x = w.heap.size + 1) w1 ((((((w1.setCell ⟨w.heap.size, 2, none⟩ (.int .i64 k)).setCell ⟨w.heap.size, 3, none⟩ (.slice A' l'.length c')).setCell ⟨w.heap.size + 1, 0, none⟩ (.string p)).setCell ⟨w.heap.size + 1, 1, none⟩ (.int .u64 v)).setCell ⟨w.heap.size + 1, 2, none⟩ (.int .i64 k)).setCell ⟨w.heap.size + 1, 3, none⟩ (.slice A' l'.length c')) :=
    ((((((Fr.refl (fun x => x = w.heap.size ∨ x = w.heap.size + 1) w1).setAt _ 2 (.inl rfl) _).setAt _ 3 (.inl rfl) _).setAt _ 0 (.inr rfl) _).setAt _ 1 (.inr rfl) _).setAt _ 2 (.inr rfl) _).setAt _ 3 (.inr rfl) _
  have ho2 := ho.fr hf3 (fun g hg e => by have := (ho.lt g hg).1; omega)
  have hlow2 := hlow.trans (hf3.below (B := w.heap.size) (by omega) (by intro k hk e; omega))
  have d0 := hb12.cell 0
  have d1 := hb12.cell 1
  have d2 := hb12.cell 2
  have d3 := hb12.cell 3
  simp at d0 d1 d2 d3
  clear hb12 hf3 hf2 hb2
  generalize (((((w1.setCell ⟨w.heap.size, 2, none⟩ (.int .i64 k)).setCell ⟨w.heap.size, 3, none⟩ (.slice A' l'.length c')).setCell ⟨w.heap.size + 1, 0, none⟩ (.string p)).setCell ⟨w.heap.size + 1, 1, none⟩ (.int .u64 v)).setCell ⟨w.heap.size + 1, 2, none⟩ (.int .i64 k)).setCell ⟨w.heap.size + 1, 3, none⟩ (.slice A' l'.length c') = V at *
  refine bodyPost_ret (v := .agg #[.string p, .int .u64 v, .int .i64 k, .slice A' l'.length c']) (by simp [results, Try.results57, go_sem, d0, d1, d2, d3]) rfl ?_
  exact ⟨A', c', l', rfl, hl', own_base ho2 (fun g hg => Nat.le_trans hs (ho.lt _ hg).1), hlow2⟩
end Go.Proofs.Ytdnljmncdbcgeaa

/- book.Book in memory; what only tells: Session, Len, get. -/
namespace Go.Proofs.Ytdnljmncdbcgeaa
open Go.RowKit

def EV.val (o : EV) : Value := .agg #[.string o.p, .int .u64 o.v, .int .i64 o.k, .slice o.x.A o.x.l.length o.x.c]
def mapB (L : List (List UInt8 × EV)) : List (List UInt8 × Value) := L.map fun x => (x.1, x.2.val)
theorem get_mapB (L : List (List UInt8 × EV)) (p : List UInt8) : getR (mapB L) p = (getR L p).map EV.val := getR_map EV.val L p
theorem mapB_len (L : List (List UInt8 × EV)) : (mapB L).length = L.length := by simp [mapB]
/-- what an entry is, plainly -/
def EV.ep (o : EV) : EP := (o.v, o.k, o.x.l)
/-- the entries of a row, plainly -/
def plainB (L : List (List UInt8 × EV)) : List (List UInt8 × EP) := L.map fun x => (x.1, x.2.ep)
theorem get_plainB (L : List (List UInt8 × EV)) (p : List UInt8) : getR (plainB L) p = (getR L p).map EV.ep := getR_map EV.ep L p
theorem keys_plainB (L : List (List UInt8 × EV)) : keysR (plainB L) = keysR L := keys_map EV.ep L
theorem plainB_len (L : List (List UInt8 × EV)) : (plainB L).length = L.length := by simp [plainB]
theorem plainB_put (L : List (List UInt8 × EV)) (p : List UInt8) (o : EV) : plainB (putR L p o) = putR (plainB L) p o.ep := (put_map EV.ep L p o).symm
theorem plainB_without (L : List (List UInt8 × EV)) (p : List UInt8) : plainB (withoutR L p) = withoutR (plainB L) p := (without_map EV.ep L p).symm
theorem mapB_put (L : List (List UInt8 × EV)) (p : List UInt8) (o : EV) : mapB (putR L p o) = putR (mapB L) p o.val := (put_map EV.val L p o).symm
theorem mapB_without (L : List (List UInt8 × EV)) (p : List UInt8) : mapB (withoutR L p) = withoutR (mapB L) p := (without_map EV.val L p).symm
/-- is an entry right? -/
def checkP (p : List UInt8) (x : EP) : Int := checkE p x.1 x.2.1 x.2.2.length
/-- what every book keeps -/
structure BookOk (T : List (List UInt8 × EP)) : Prop where
  sort : SortR T
  good : ∀ x ∈ T, checkP x.1 x.2 = 0
  len : T.length ≤ 256
theorem BookOk.nil : BookOk [] := ⟨sortR_nil, by simp, by simp⟩
theorem checkP_good {p : List UInt8} {x : EP} (h : checkP p x = 0) : userB p = true ∧ isV x.1 = true ∧ checkN x.2.1 x.2.2.length = 0 := by
  unfold checkP checkE at h
  split at h
  · simp at h
  · rename_i h1
    split at h
    · simp at h
    · rename_i h2
      exact ⟨by simpa using h1, by simpa using h2, h⟩
theorem userB_good {p : List UInt8} (h : userB p = true) : goodB p = true := by
  unfold userB at h
  simp only [Bool.and_eq_true] at h
  exact h.1
theorem isV_pos {v : Int} (h : isV v = true) : 1048577 ≤ v ∧ v < 18446744073709551616 := by
  have := goodV_iff.1 h
  omega
theorem checkN_len {k : Int} {n : Nat} (h : checkN k n = 0) : n ≤ 4096 := by
  unfold checkN at h
  split at h
  · split at h
    · assumption
    · simp at h
  · split at h
    · split at h
      · omega
      · simp at h
    · simp at h
/-- what Put answers, and what it leaves -/
def putP (T : List (List UInt8 × EP)) (p : List UInt8) (x : EP) : List (List UInt8 × EP) × Int := putB T p x (checkP p x)
theorem BookOk.put {T : List (List UInt8 × EP)} (h : BookOk T) (p : List UInt8) (x : EP) : BookOk (putP T p x).1 := by
  unfold putP putB
  split
  · exact h
  · rename_i hc
    rw [Classical.not_not] at hc
    split
    · exact h
    · split
      · rename_i hf
        rcases hs : spareB T with _ | y
        · exact h
        · dsimp only [Option.elim]
          obtain ⟨hy, _⟩ := spareB_mem hs
          have hw := h.sort.without_len (h.sort.get hy)
          refine ⟨(h.sort.without _).put _ _, fun z hz => ?_, ?_⟩
          · unfold putR at hz
            rcases mem_ins.1 hz with rfl | hz
            · exact hc
            · exact h.good z (List.mem_filter.1 (List.mem_filter.1 hz).1).1
          · unfold putR
            rw [ins_len]
            have h1 := without_len_le (withoutR T y.1) p
            have h2 := h.len
            omega
      · rename_i hf
        refine ⟨h.sort.put _ _, fun z hz => ?_, ?_⟩
        · unfold putR at hz
          rcases mem_ins.1 hz with rfl | hz
          · exact hc
          · exact h.good z (List.mem_filter.1 hz).1
        · unfold putR
          dsimp only
          rw [ins_len]
          have h2 := h.len
          rcases hq : getR T p with _ | v
          · rw [hq] at hf
            simp at hf
            rw [without_self hq]
            omega
          · have := h.sort.without_len hq
            omega
/-- an entry in a book -/
structure EV.inB (w : World) (p : List UInt8) (o : EV) : Prop where
  own : OwB w 0 (.slice o.x.A o.x.l.length o.x.c) o.x.l
  p : tl o.p = p
theorem EV.inB.x {w : World} {p : List UInt8} {o : EV} (h : o.inB w p) : o.x.ok w (fun _ => True) := by
  obtain ⟨A', c', e, h2, h3, _⟩ := h.own.form
  injection e with e1 e2 e3
  subst e1 e3
  exact ⟨h.own.rd.mono (fun _ _ _ => trivial), h2, h3⟩
/-- the book at block bb; its map at mo, if it has one -/
structure BookAt (w : World) (bb : Nat) (mo : Option Nat) (L : List (List UInt8 × EV)) (s : Int) : Prop where
  blk : Blk w bb 69 #[.int .u64 s, .map mo]
  map : (mo = none ∧ L = []) ∨ ∃ mb, mo = some mb ∧ MapAt w Try.prog 9 mb (mapB L)
  ok : ∀ x ∈ L, x.2.inB w x.1
  plain : BookOk (plainB L)
theorem EV.inB.below {w w' : World} {p : List UInt8} {o : EV} (h : o.inB w p) (k : Below w.heap.size w w') : o.inB w' p := ⟨h.own.below k, h.p⟩
namespace BookAt
variable {w w' : World} {bb : Nat} {mo : Option Nat} {L : List (List UInt8 × EV)} {s : Int}
theorem fr {S : Nat → Prop} (h : BookAt w bb mo L s) (k : Fr S w w') (h1 : ¬ S bb) (h2 : ∀ m, mo = some m → ¬ S m) (h3 : ∀ x ∈ L, ∀ g, (Value.slice x.2.x.A x.2.x.l.length x.2.x.c).ownBlock = some g → ¬ S g) : BookAt w' bb mo L s :=
  ⟨h.blk.fr k h1, h.map.imp id fun ⟨mb, e, hm⟩ => ⟨mb, e, hm.block (k.block mb hm.lt (h2 mb e))⟩, fun x hx => ⟨own_fr (h.ok x hx).own k (h3 x hx), (h.ok x hx).p⟩, h.plain⟩
theorem below (h : BookAt w bb mo L s) (k : Below w.heap.size w w') : BookAt w' bb mo L s := h.fr (Fr.of_below k (fun _ => False)) (fun h => h) (fun _ _ h => h) (fun _ _ _ _ h => h)
theorem own_map {mb base n size : Nat} {e : TypeId} {v : Value} {xs : List Value} {K : List (List UInt8 × Value)} (hm : MapAt w Try.prog 9 mb K) (h : w.ownsRow base e size v n xs) : v.ownBlock ≠ some mb := by
  rcases h.2 with ⟨rfl, _⟩ | ⟨g', cap, cur, rfl, _, hh, _⟩
  · simp [Value.ownBlock]
  · intro he
    have e1 : g' = mb := by simpa [Value.ownBlock] using he
    subst e1
    exact hm.not_cells hh
/-- rows of the call's own do not lie in a book's own blocks -/
theorem ownT (t : BookAt w bb mo L s) {base n size : Nat} {e : TypeId} {v : Value} {xs : List Value} (h : w.ownsRow base e size v n xs) (he : e ≠ 69) : ∀ g, v.ownBlock = some g → ¬ (g = bb ∨ mo = some g) := by
  rintro g hg (rfl | hm)
  · exact t.blk.own_ne h he hg
  · rcases t.map with ⟨e0, _⟩ | ⟨mb, e0, hm2⟩
    · rw [e0] at hm; cases hm
    · rw [e0] at hm
      injection hm with hm
      subst hm
      exact own_map hm2 h hg
/-- rows of the call's own of another type stand apart from a book: whatever is written there, the book stays -/
theorem fr_row (t : BookAt w bb mo L s) {base n size : Nat} {e : TypeId} {v : Value} {xs : List Value} (h : w.ownsRow base e size v n xs) (he : e ≠ 69) (he2 : e ≠ 5) (k : Fr (fun g => v.ownBlock = some g) w w') : BookAt w' bb mo L s := by
  have h1 := t.ownT h he
  refine t.fr k (fun e => h1 _ e (.inl rfl)) (fun m e e2 => h1 _ e2 (.inr e)) (fun x hx g hg e2 => ?_)
  rcases h.2 with ⟨rfl, _⟩ | ⟨g', cap, cur, rfl, _, hh, _⟩
  · simp [Value.ownBlock] at e2
  · have e3 : g' = g := by simpa [Value.ownBlock] using e2
    subst e3
    have hb : Blk w g' e _ := hh
    exact hb.own_ne (t.ok x hx).own (fun e => he2 e.symm) hg
/-- a block of another type is none of a book's -/
theorem notB (t : BookAt w bb mo L s) {g : Nat} {e : TypeId} {cs : Array Value} (h : Blk w g e cs) (he : e ≠ 69) : ¬ (g = bb ∨ mo = some g) := by
  rintro (rfl | hm)
  · have := t.blk
    unfold Blk at this h
    rw [h] at this
    injection this with this
    injection this with _ e1
    exact he e1
  · rcases t.map with ⟨e0, _⟩ | ⟨mb, e0, hm2⟩
    · rw [e0] at hm; cases hm
    · rw [e0] at hm
      injection hm with hm
      subst hm
      exact hm2.not_cells h
/-- a block of another type written: the book stays -/
theorem fr_blk (t : BookAt w bb mo L s) {g : Nat} {e : TypeId} {cs : Array Value} (h : Blk w g e cs) (he : e ≠ 69) (he2 : e ≠ 5) (k : Fr (fun x => x = g) w w') : BookAt w' bb mo L s := by
  have h1 := t.notB h he
  refine t.fr k (fun e => h1 (.inl e.symm)) (fun m e e2 => h1 (.inr (by rw [e, e2]))) (fun x hx g' hg e2 => ?_)
  subst e2
  exact h.own_ne (t.ok x hx).own (fun e => he2 e.symm) hg
theorem ne (h : BookAt w bb mo L s) : mo ≠ some bb := by
  rcases h.map with ⟨e, _⟩ | ⟨mb, e, hm⟩
  · rw [e]; simp
  · rw [e]
    intro e2
    injection e2 with e2
    subst e2
    exact hm.not_cells h.blk
theorem lt (h : BookAt w bb mo L s) : ∀ m, mo = some m → m < w.heap.size := by
  rcases h.map with ⟨e, _⟩ | ⟨mb, e, hm⟩
  · rw [e]; simp
  · rw [e]
    intro m e2
    injection e2 with e2
    subst e2
    exact hm.lt
theorem len (h : BookAt w bb mo L s) : L.length ≤ 256 := by have := h.plain.len; rwa [plainB_len] at this
theorem sort (h : BookAt w bb mo L s) : SortR L := (sort_map EV.ep).1 h.plain.sort
theorem small (h : BookAt w bb mo L s) {x : List UInt8 × EV} (hx : x ∈ L) : userB x.1 = true ∧ isV x.2.v = true ∧ checkN x.2.k x.2.x.l.length = 0 := checkP_good (h.plain.good (x.1, x.2.ep) (List.mem_map.2 ⟨x, hx, rfl⟩))
theorem keys (h : BookAt w bb mo L s) {x : List UInt8 × EV} (hx : x ∈ L) : x.1.length ≤ 96 := goodB_len (userB_good (h.small hx).1)
theorem data (h : BookAt w bb mo L s) {x : List UInt8 × EV} (hx : x ∈ L) : x.2.x.l.length ≤ 4096 := checkN_len (h.small hx).2.2
theorem pl (h : BookAt w bb mo L s) : (L.map fun x => (tl x.2.p, x.2.ep)) = plainB L := List.map_congr_left fun x hx => by rw [(h.ok x hx).p]
end BookAt
theorem BookAt.cells {w : World} {bb : Nat} {mo : Option Nat} {L : List (List UInt8 × EV)} {s : Int} (h : BookAt w bb mo L s) : w.cell? ⟨bb, 0, none⟩ = some (.int .u64 s) ∧ w.cell? ⟨bb, 1, none⟩ = some (.map mo) := ⟨h.blk.cell 0, h.blk.cell 1⟩
set_option maxRecDepth 100000 in
set_option maxHeartbeats 400000 in
theorem bookSession_any (bb : Nat) (mo : Option Nat) (L : List (List UInt8 × EV)) (s : Int) (w : World) (h : BookAt w bb mo L s) :
    Calls Try.prog 43 #[.pointer (some ⟨bb, 0, none⟩)] w fun e w' => e = .returned (.int .u64 s) ∧ w = w' := by
  obtain ⟨c0, _⟩ := h.cells
  clear h
  go_enter Try.func43, Try.ntmps43
  go_wp2_with fail
  go_ret
  exact ⟨rfl, rfl⟩
set_option maxRecDepth 100000 in
set_option maxHeartbeats 400000 in
theorem bookSession_nil (w : World) : Calls Try.prog 43 #[.pointer none] w fun e w' => e = .returned (.int .u64 0) ∧ w = w' := by
  go_enter Try.func43, Try.ntmps43
  go_wp2_with fail
  go_ret
  exact ⟨rfl, rfl⟩
set_option maxRecDepth 100000 in
set_option maxHeartbeats 400000 in
theorem bookLen_any (bb : Nat) (mo : Option Nat) (L : List (List UInt8 × EV)) (s : Int) (w : World) (h : BookAt w bb mo L s) :
    Calls Try.prog 18 #[.pointer (some ⟨bb, 0, none⟩)] w fun e w' => e = .returned (.int .i64 L.length) ∧ w = w' := by
  obtain ⟨_, c1⟩ := h.cells
  rcases h.map with ⟨rfl, rfl⟩ | ⟨mb, rfl, hm⟩
  · clear h
    go_enter Try.func18, Try.ntmps18
    go_wp2_with fail
    go_ret
    exact ⟨rfl, rfl⟩
  · have hc := fun ty => hm.count (w := w) Try.underlying9 (t := 67) (e := 28) Try.underlying67 ty
    rw [mapB_len] at hc
    clear h hm
    go_enter Try.func18, Try.ntmps18
    go_wp2_with fail
    go_ret
    exact ⟨rfl, rfl⟩
set_option maxRecDepth 100000 in
set_option maxHeartbeats 400000 in
theorem bookLen_nil (w : World) : Calls Try.prog 18 #[.pointer none] w fun e w' => e = .returned (.int .i64 0) ∧ w = w' := by
  go_enter Try.func18, Try.ntmps18
  go_wp2_with fail
  go_ret
  exact ⟨rfl, rfl⟩
end Go.Proofs.Ytdnljmncdbcgeaa

/- book.Book: get, Get, Next. -/
namespace Go.Proofs.Ytdnljmncdbcgeaa
open Go.RowKit

def noE : EV := ⟨⟨#[]⟩, 0, 0, ⟨none, 0, []⟩⟩
theorem noE_ok (w : World) : noE.x.ok w (fun _ => True) := ⟨Rd.nil, by simp [noE], by simp [noE, maxLen]⟩
theorem entryV_zero (w : World) : (zeroValue 28).run Try.prog w = .ok noE.val w := by kernel_rfl
set_option maxRecDepth 100000 in
theorem BookAt.look {w : World} {bb : Nat} {mo : Option Nat} {L : List (List UInt8 × EV)} {s : Int} (h : BookAt w bb mo L s) (p : List UInt8) (hp : p.length ≤ maxLen) :
    (Instr.lookup 67 (.map mo) (.string ⟨⟨p⟩⟩) true).run Try.prog w = .ok (.tuple #[((getR L p).getD noE).val, .bool (getR L p).isSome]) w := by
  rcases h.map with ⟨rfl, rfl⟩ | ⟨mb, rfl, hm⟩
  · exact Go.Maps.look_nil (t := 67) (e := 28) true (Go.Maps.string_keyed Try.underlying9) Try.underlying67 (entryV_zero w) (Go.WideMaps.keyOf_string_mk Try.underlying9 (s := ⟨⟨p⟩⟩) hp)
  · rw [hm.look_ok Try.underlying9 (t := 67) (e := 28) Try.underlying67 (entryV_zero w) p hp, get_mapB]
    rcases getR L p with _ | o <;> rfl
set_option maxRecDepth 100000 in
set_option maxHeartbeats 1000000 in
theorem bookget_any (bb : Nat) (mo : Option Nat) (L : List (List UInt8 × EV)) (s : Int) (p : List UInt8) (w : World) (h : BookAt w bb mo L s) (hp : p.length ≤ maxLen) :
    Calls Try.prog 54 #[.pointer (some ⟨bb, 0, none⟩), .string ⟨⟨p⟩⟩] w fun e w' => (∃ o : EV, e = .returned (.tuple #[.agg #[.string o.p, .int .u64 o.v, .int .i64 o.k, .slice o.x.A o.x.l.length o.x.c], .bool (getR L p).isSome]) ∧ Hid (o = (getR L p).getD noE)) ∧ Below w.heap.size w w' := by
  have hb0 : Below w.heap.size w (w.alloc (.cells #[.string ⟨#[]⟩, .int .u64 0, .int .i64 0, .slice none 0 0] 28)) := (by repeat (first | exact Below.refl _ _ | refine Below.alloc ?_ (by simp) _ | refine Below.setCell ?_ (by simp) _ | refine Below.drew ?_))
  have h0 := h.below hb0
  obtain ⟨_, c1⟩ := h0.cells
  obtain ⟨o, ho⟩ : ∃ o, o = (getR L p).getD noE := ⟨_, rfl⟩
  have HO := Lib.hid ho
  have hl := h0.look p hp
  rw [← ho] at hl
  obtain ⟨sm, hsm⟩ : ∃ sm, sm = (getR L p).isSome := ⟨_, rfl⟩
  rw [← hsm] at hl ⊢
  unfold EV.val at hl
  clear h h0 ho hsm
  have x3 := Blk.new w 28 #[.string o.p, .int .u64 o.v, .int .i64 o.k, .slice o.x.A o.x.l.length o.x.c]
  have z0 := x3.cell 0
  have z1 := x3.cell 1
  have z2 := x3.cell 2
  have z3 := x3.cell 3
  simp only [List.getElem?_toArray, List.getElem?_cons_zero, List.getElem?_cons_succ] at z0 z1 z2 z3
  go_enter Try.func54, Try.ntmps54
  go_wp2_with fail
  refine bodyPost_ret (v := .tuple #[.agg #[.string o.p, .int .u64 o.v, .int .i64 o.k, .slice o.x.A o.x.l.length o.x.c], .bool sm]) (by simp [results, Try.results54, go_sem, z0, z1, z2, z3]) rfl ?_
  exact ⟨⟨o, rfl, HO.out⟩, (by repeat (first | exact Below.refl _ _ | refine Below.alloc ?_ (by simp) _ | refine Below.setCell ?_ (by simp) _ | refine Below.drew ?_))⟩
set_option maxRecDepth 100000 in
set_option maxHeartbeats 1000000 in
theorem bookget_nil (p : List UInt8) (w : World) :
    Calls Try.prog 54 #[.pointer none, .string ⟨⟨p⟩⟩] w fun e w' => e = .returned (.tuple #[.agg #[.string ⟨#[]⟩, .int .u64 0, .int .i64 0, .slice none 0 0], .bool false]) ∧ Below w.heap.size w w' := by
  have x3 := Blk.new w 28 #[.string ⟨#[]⟩, .int .u64 0, .int .i64 0, .slice none 0 0]
  have z0 := x3.cell 0
  have z1 := x3.cell 1
  have z2 := x3.cell 2
  have z3 := x3.cell 3
  simp only [List.getElem?_toArray, List.getElem?_cons_zero, List.getElem?_cons_succ] at z0 z1 z2 z3
  go_enter Try.func54, Try.ntmps54
  go_wp2_with fail
  refine bodyPost_ret (v := .tuple #[.agg #[.string ⟨#[]⟩, .int .u64 0, .int .i64 0, .slice none 0 0], .bool false]) (by simp [results, Try.results54, go_sem, z0, z1, z2, z3]) rfl ?_
  exact ⟨rfl, (by repeat (first | exact Below.refl _ _ | refine Below.alloc ?_ (by simp) _ | refine Below.setCell ?_ (by simp) _ | refine Below.drew ?_))⟩
/-- the book written: its session -/
theorem BookAt.set {w : World} {bb : Nat} {mo : Option Nat} {L : List (List UInt8 × EV)} {s : Int} (h : BookAt w bb mo L s) (s' : Int) : BookAt (w.setCell ⟨bb, 0, none⟩ (.int .u64 s')) bb mo L s' := by
  have k : Fr (fun x => x = bb) w (w.setCell ⟨bb, 0, none⟩ (.int .u64 s')) := (Fr.refl (fun x => x = bb) w).setAt bb 0 rfl _
  refine ⟨by simpa using h.blk.set_ 0 (.int .u64 s'), ?_, fun x hx => ⟨own_fr (h.ok x hx).own k (fun g hg e => h.ownT (h.ok x hx).own (by decide) g hg (.inl e)), (h.ok x hx).p⟩, h.plain⟩
  rcases h.map with h1 | ⟨mb, e, hm⟩
  · exact .inl h1
  · exact .inr ⟨mb, e, hm.block (k.block mb hm.lt (fun e2 => h.ne (by rw [e, e2])))⟩
end Go.Proofs.Ytdnljmncdbcgeaa

/- book.Book: Get, Next. -/
namespace Go.Proofs.Ytdnljmncdbcgeaa
open Go.RowKit

/-- what Get tells -/
def gotE (L : List (List UInt8 × EV)) (p : List UInt8) : EV := (getR L p).getD ⟨⟨⟨p⟩⟩, 0, 0, ⟨none, 0, []⟩⟩

set_option maxRecDepth 100000 in
set_option maxHeartbeats 1000000 in
theorem bookGet_any (bb : Nat) (mo : Option Nat) (L : List (List UInt8 × EV)) (s : Int) (p : List UInt8) (w : World) (h : BookAt w bb mo L s) (hp : p.length ≤ maxLen) :
    Calls Try.prog 20 #[.pointer (some ⟨bb, 0, none⟩), .string ⟨⟨p⟩⟩] w fun e w' => ∃ (q : ByteArray) (v k : Int) (A' : Option Addr) (c' : Nat) (l' : List UInt8), e = .returned (.agg #[.string q, .int .u64 v, .int .i64 k, .slice A' l'.length c']) ∧ Hid (q = (gotE L p).p ∧ v = (gotE L p).v ∧ k = (gotE L p).k ∧ l' = (gotE L p).x.l) ∧ OwB w' w.heap.size (.slice A' l'.length c') l' ∧ Below w.heap.size w w' := by
  have hb0 : Below w.heap.size w (w.alloc (.cells #[.string ⟨#[]⟩, .int .u64 0, .int .i64 0, .slice none 0 0] 28)) := (by repeat (first | exact Below.refl _ _ | refine Below.alloc ?_ (by simp) _ | refine Below.setCell ?_ (by simp) _ | refine Below.drew ?_))
  have x0 := Blk.new w 28 #[.string ⟨#[]⟩, .int .u64 0, .int .i64 0, .slice none 0 0]
  have HG := Lib.hid (bookget_any bb mo L s p _ (h.below hb0) hp)
  have hl : ∀ x ∈ L, x.2.x.l.length ≤ 140737488355328 := fun x hx => Nat.le_trans (h.data hx) (by omega)
  have HB := Lib.hid h
  clear h
  rcases hg : getR L p with _ | o
  · have HGE : Hid (gotE L p = ⟨⟨⟨p⟩⟩, 0, 0, ⟨none, 0, []⟩⟩) := Lib.hid (by unfold gotE; rw [hg]; rfl)
    rw [hg] at HG
    clear hg hl
    go_enter Try.func20, Try.ntmps20
    go_wp2_with fail
    refine HG.out.mono ?_
    rintro e w1 ⟨⟨o, rfl, ho⟩, hb1⟩
    have hw1 := hb0.trans (hb1.mono hb0.size)
    have hba : Below w1.heap.size w1 (w1.alloc (.cells #[.string o.p, .int .u64 o.v, .int .i64 o.k, .slice o.x.A o.x.l.length o.x.c] 28)) := (Below.refl _ _).alloc (Nat.le_refl _) _
    have hw2 := hw1.trans (hba.mono hw1.size)
    have x2 := (x0.below hb1).below hba
    go_upto_region 3 with (fail)
    generalize w1.alloc (.cells #[.string o.p, .int .u64 o.v, .int .i64 o.k, .slice o.x.A o.x.l.length o.x.c] 28) = w2 at *
    have r0 := x2.cell 0
    have r1 := x2.cell 1
    have r2 := x2.cell 2
    have r3 := x2.cell 3
    simp only [List.getElem?_toArray, List.getElem?_cons_zero, List.getElem?_cons_succ] at r0 r1 r2 r3
    have fr := fun o => x2.frozen o
    go_wp2_with fail
    have kR : Fr (fun x => x = w.heap.size) w2 ((((w2.setCell ⟨w.heap.size, 0, none⟩ (.string ⟨⟨p⟩⟩)).setCell ⟨w.heap.size, 1, none⟩ (.int .u64 0)).setCell ⟨w.heap.size, 2, none⟩ (.int .i64 0)).setCell ⟨w.heap.size, 3, none⟩ (.slice none 0 0)) := (((((Fr.refl (fun x => x = w.heap.size) w2).setAt (w.heap.size) _ rfl _).setAt (w.heap.size) _ rfl _).setAt (w.heap.size) _ rfl _).setAt (w.heap.size) _ rfl _)
    have yR := ((((x2.set_ 0 (.string ⟨⟨p⟩⟩)).set_ 1 (.int .u64 0)).set_ 2 (.int .i64 0)).set_ 3 (.slice none 0 0))
    simp only [List.setIfInBounds_toArray, List.set_cons_zero, List.set_cons_succ] at yR
    have hwR : Below w.heap.size w ((((w2.setCell ⟨w.heap.size, 0, none⟩ (.string ⟨⟨p⟩⟩)).setCell ⟨w.heap.size, 1, none⟩ (.int .u64 0)).setCell ⟨w.heap.size, 2, none⟩ (.int .i64 0)).setCell ⟨w.heap.size, 3, none⟩ (.slice none 0 0)) := hw2.trans (kR.below (B := w.heap.size) hw2.size (fun k hk e => by omega))
    generalize ((((w2.setCell ⟨w.heap.size, 0, none⟩ (.string ⟨⟨p⟩⟩)).setCell ⟨w.heap.size, 1, none⟩ (.int .u64 0)).setCell ⟨w.heap.size, 2, none⟩ (.int .i64 0)).setCell ⟨w.heap.size, 3, none⟩ (.slice none 0 0)) = wR at *
    have s0 := yR.cell 0
    have s1 := yR.cell 1
    have s2 := yR.cell 2
    have s3 := yR.cell 3
    simp only [List.getElem?_toArray, List.getElem?_cons_zero, List.getElem?_cons_succ] at s0 s1 s2 s3
    refine bodyPost_ret (v := .agg #[.string ⟨⟨p⟩⟩, .int .u64 0, .int .i64 0, .slice none 0 0]) (by simp [results, Try.results20, go_sem, s0, s1, s2, s3]) rfl ?_
    exact ⟨⟨⟨p⟩⟩, 0, 0, none, 0, [], rfl, by show _ ∧ _; rw [HGE.out]; exact ⟨rfl, rfl, rfl, rfl⟩, OwB.nil _ _, hwR⟩
  · have HGE : Hid (gotE L p = o) := Lib.hid (by unfold gotE; rw [hg]; rfl)
    have hol := hl _ (getR_mem hg)
    have hob := (HB.out.ok _ (getR_mem hg)).x
    dsimp only at hol hob
    rw [hg] at HG
    clear hg hl
    go_enter Try.func20, Try.ntmps20
    go_wp2_with fail
    refine HG.out.mono ?_
    rintro e w1 ⟨⟨o', rfl, ho⟩, hb1⟩
    obtain rfl : o' = o := ho.out
    clear ho
    have hw1 := hb0.trans (hb1.mono hb0.size)
    have hba : Below w1.heap.size w1 (w1.alloc (.cells #[.string o'.p, .int .u64 o'.v, .int .i64 o'.k, .slice o'.x.A o'.x.l.length o'.x.c] 28)) := (Below.refl _ _).alloc (Nat.le_refl _) _
    have hw2 := hw1.trans (hba.mono hw1.size)
    have x2 := (x0.below hb1).below hba
    have y2 := Blk.new w1 28 #[.string o'.p, .int .u64 o'.v, .int .i64 o'.k, .slice o'.x.A o'.x.l.length o'.x.c]
    have HC := Lib.hid (entryClone_any o'.p o'.v o'.k o'.x.A o'.x.c o'.x.l _ _ (hob.below hw2).1 hol)
    clear hob HG hb1 hba x0
    go_upto_region 4 with (fail)
    generalize w1.alloc (.cells #[.string o'.p, .int .u64 o'.v, .int .i64 o'.k, .slice o'.x.A o'.x.l.length o'.x.c] 28) = w2 at *
    have p0 := y2.cell 0
    have p1 := y2.cell 1
    have p2 := y2.cell 2
    have p3 := y2.cell 3
    simp only [List.getElem?_toArray, List.getElem?_cons_zero, List.getElem?_cons_succ] at p0 p1 p2 p3
    go_wp2_with fail
    refine HC.out.mono ?_
    rintro e w3 ⟨A3, c3, l3, rfl, hl3, ho3, hb3⟩
    have hw3 := hw2.trans (hb3.mono hw2.size)
    have x3 := x2.below hb3
    have s2 := hw2.size
    have l2 := x2.lt
    have r0 := x3.cell 0
    have r1 := x3.cell 1
    have r2 := x3.cell 2
    have r3 := x3.cell 3
    simp only [List.getElem?_toArray, List.getElem?_cons_zero, List.getElem?_cons_succ] at r0 r1 r2 r3
    have fr := fun o => x3.frozen o
    go_wp2_with fail
    have kR : Fr (fun x => x = w.heap.size) w3 ((((w3.setCell ⟨w.heap.size, 0, none⟩ (.string o'.p)).setCell ⟨w.heap.size, 1, none⟩ (.int .u64 o'.v)).setCell ⟨w.heap.size, 2, none⟩ (.int .i64 o'.k)).setCell ⟨w.heap.size, 3, none⟩ (.slice A3 l3.length c3)) := (((((Fr.refl (fun x => x = w.heap.size) w3).setAt (w.heap.size) _ rfl _).setAt (w.heap.size) _ rfl _).setAt (w.heap.size) _ rfl _).setAt (w.heap.size) _ rfl _)
    have yR := ((((x3.set_ 0 (.string o'.p)).set_ 1 (.int .u64 o'.v)).set_ 2 (.int .i64 o'.k)).set_ 3 (.slice A3 l3.length c3))
    simp only [List.setIfInBounds_toArray, List.set_cons_zero, List.set_cons_succ] at yR
    have hwR : Below w.heap.size w ((((w3.setCell ⟨w.heap.size, 0, none⟩ (.string o'.p)).setCell ⟨w.heap.size, 1, none⟩ (.int .u64 o'.v)).setCell ⟨w.heap.size, 2, none⟩ (.int .i64 o'.k)).setCell ⟨w.heap.size, 3, none⟩ (.slice A3 l3.length c3)) := hw3.trans (kR.below (B := w.heap.size) hw3.size (fun k hk e => by omega))
    generalize ((((w3.setCell ⟨w.heap.size, 0, none⟩ (.string o'.p)).setCell ⟨w.heap.size, 1, none⟩ (.int .u64 o'.v)).setCell ⟨w.heap.size, 2, none⟩ (.int .i64 o'.k)).setCell ⟨w.heap.size, 3, none⟩ (.slice A3 l3.length c3)) = wR at *
    have s0 := yR.cell 0
    have s1 := yR.cell 1
    have s2 := yR.cell 2
    have s3 := yR.cell 3
    simp only [List.getElem?_toArray, List.getElem?_cons_zero, List.getElem?_cons_succ] at s0 s1 s2 s3
    refine bodyPost_ret (v := .agg #[.string o'.p, .int .u64 o'.v, .int .i64 o'.k, .slice A3 l3.length c3]) (by simp [results, Try.results20, go_sem, s0, s1, s2, s3]) rfl ?_
    refine ⟨o'.p, o'.v, o'.k, A3, c3, l3, rfl, by show _ ∧ _; rw [HGE.out]; exact ⟨rfl, rfl, rfl, hl3.out⟩, ?_, hwR⟩
    exact own_base (OwB.fr ho3 kR (fun g hg e => by have := (ho3.lt g hg).1; omega)) (fun g hg => by have := (ho3.lt g hg).1; omega)

set_option maxRecDepth 100000 in
set_option maxHeartbeats 400000 in
theorem bookNext_any (bb : Nat) (mo : Option Nat) (L : List (List UInt8 × EV)) (s : Int) (w : World) (h : BookAt w bb mo L s) (hs : 0 ≤ s ∧ s < 18446744073709551616) :
    Calls Try.prog 31 #[.pointer (some ⟨bb, 0, none⟩)] w fun e w' => e = .returned (.int .i64 (if 1099511627776 ≤ s then 24 else 0)) ∧ BookAt w' bb mo L (if 1099511627776 ≤ s then s else s + 1) ∧ Fr (fun x => x = bb) w w' := by
  obtain ⟨c0, _⟩ := h.cells
  by_cases hl : 1099511627776 ≤ s
  · have hd : decide (1099511627776 ≤ s) = true := decide_eq_true hl
    rw [if_pos hl, if_pos hl]
    have HB := Lib.hid h
    clear h hl
    go_enter Try.func31, Try.ntmps31
    go_wp2_with fail
    go_ret
    exact ⟨rfl, HB.out, Fr.refl _ _⟩
  · have hd : decide (1099511627776 ≤ s) = false := decide_eq_false hl
    rw [if_neg hl, if_neg hl]
    have hw := IntWalk.u64_in (s + 1) ⟨by omega, by omega⟩
    have HB := Lib.hid (h.set (s + 1))
    have f0 := h.blk.frozen 0
    clear h
    go_enter Try.func31, Try.ntmps31
    go_wp2_with fail
    go_ret
    exact ⟨rfl, HB.out, (Fr.refl (fun x => x = bb) w).setAt bb 0 rfl _⟩
theorem bookNext_nil (w : World) : Calls Try.prog 31 #[.pointer none] w fun e w' => e = .returned (.int .i64 1) ∧ w = w' := by
  go_enter Try.func31, Try.ntmps31
  go_wp2_with fail
  go_ret
  exact ⟨rfl, rfl⟩
end Go.Proofs.Ytdnljmncdbcgeaa
