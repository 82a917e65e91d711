/- name.Under. -/
import Derived.Test.YtjcfphdjgagimaaGreatDoorA02
import Derived.Handy
import Derived.Deep.RegionHeld3
import Derived.Maps.OwnSet

namespace Go.Proofs.YtjcfphdjgagimaaGreatDoor
open Go.RowKit

theorem under_any (p top : ByteArray) (hp : p.size ≤ 9223372036854775807) (ht : top.size ≤ 9223372036854775807) (w : World) : Calls Tryz.prog 100 #[.string p, .string top] w fun e w' => e = .returned (.bool (underB (tl p) (tl top))) ∧ Below w.heap.size w w' := by
  cases h1 : goodB (tl p)
  · have hr : underB (tl p) (tl top) = false := by unfold underB; rw [h1]; rfl
    rw [hr]
    have HC := Lib.hid (check_no p hp h1)
    clear hr h1
    go_enter Tryz.func100, Tryz.ntmps100
    go_wp2_with fail
    refine (HC.out _).mono ?_
    rintro e w1 ⟨rfl, hb⟩
    go_wp2_with fail
    go_ret
    exact ⟨rfl, hb⟩
  · cases h2 : goodB (tl top)
    · have hr : underB (tl p) (tl top) = false := by unfold underB; rw [h1, h2]; rfl
      rw [hr]
      have HC := Lib.hid (check_yes p hp h1)
      have HD := Lib.hid (check_no top ht h2)
      clear hr h1 h2
      go_enter Tryz.func100, Tryz.ntmps100
      go_wp2_with fail
      refine (HC.out _).mono ?_
      rintro e w1 ⟨rfl, hb⟩
      go_wp2_with fail
      refine (HD.out _).mono ?_
      rintro e w2 ⟨rfl, hb2⟩
      go_wp2_with fail
      go_ret
      exact ⟨rfl, bthen hb hb2⟩
    · obtain ⟨R, hR⟩ : ∃ R, R = underB (tl p) (tl top) := ⟨_, rfl⟩
      have hr : R = preB (tl p) (tl top) := by rw [hR]; unfold underB; rw [h1, h2]; rfl
      rw [← hR]
      have HR := Lib.hid hr
      have HC := Lib.hid (check_yes p hp h1)
      have HD := Lib.hid (check_yes top ht h2)
      have hts : top.size ≤ 96 := by have := goodB_len h2; rwa [tl_len] at this
      clear hr hR h1 h2
      go_enter Tryz.func100, Tryz.ntmps100
      go_wp2_with fail
      refine (HC.out _).mono ?_
      rintro e w1 ⟨rfl, hb⟩
      go_wp2_with fail
      refine (HD.out _).mono ?_
      rintro e w2 ⟨rfl, hb2⟩
      go_wp2_with fail
      refine (Tryz.strings_HasPrefix _ _ _).mono ?_
      rintro e w3 ⟨rfl, rfl⟩
      go_wp2_with fail
      go_ret
      refine ⟨ret_b ?_, bthen hb hb2⟩
      rw [HR.out]
      unfold preB Lib.hasPrefix
      rfl
end Go.Proofs.YtjcfphdjgagimaaGreatDoor

/- bytes.Clone. -/
namespace Go.Proofs.YtjcfphdjgagimaaGreatDoor
open Go.RowKit

theorem clone_any (A : Option Addr) (c : Nat) (l : List UInt8) (Z : Nat → Prop) (w : World) (h : By w Z A l) (hlen : l.length ≤ 140737488355328) :
    Calls Tryz.prog 60 #[.slice A l.length c] w fun e w' => ∃ (A' : Option Addr) (c' : Nat) (l' : List UInt8), e = .returned (.slice A' l'.length c') ∧ Hid (l' = l) ∧ OwB w' w.heap.size (.slice A' l'.length c') l' ∧ Below w.heap.size w w' := by
  rcases A with _ | a
  · have hl : l = [] := by
      rcases l with _ | ⟨x, l⟩
      · rfl
      · obtain ⟨b, off, e, _⟩ := h.2 (by simp); cases e
    subst hl
    refine (Tryz.bytes_Clone_nil 0 c w).mono ?_
    rintro e w' ⟨rfl, rfl⟩
    exact ⟨none, 0, [], rfl, rfl, OwB.nil _ _, Below.refl _ _⟩
  · refine (Tryz.bytes_Clone_at a l.length c (l.map fun x => (x.toNat : Int)) w (by simp) hlen ?_).mono ?_
    · intro i hi
      have hg : (l.map bv)[i]? = some (bv l[i]) := by rw [List.getElem?_map, List.getElem?_eq_getElem hi]; rfl
      obtain ⟨b, off, e, _, _, hc⟩ := Rd.atj h hg
      injection e with e
      subst e
      rw [add_none, hc, List.getD_eq_getElem?_getD, List.getElem?_map, List.getElem?_eq_getElem hi]
      rfl
    · rintro e w' ⟨v, rfl, h1, _, hb⟩
      have ho : OwB w' w.heap.size v l := by
        unfold OwB
        have e2 : (l.map fun x => (x.toNat : Int)).map (Value.int .u8) = l.map bv := by simp [bv, Function.comp_def]
        rw [← e2]
        exact h1
      obtain ⟨A', c', rfl, _⟩ := ho.form
      exact ⟨A', c', l, rfl, rfl, ho, hb⟩

end Go.Proofs.YtjcfphdjgagimaaGreatDoor

/- Flat lists of cells. -/
namespace Go.Proofs.YtjcfphdjgagimaaGreatDoor
open Go.RowKit

theorem flat_get {α : Type} {f : α → List Value} {k : Nat} (hk : ∀ x, (f x).length = k) : ∀ (l : List α) (i j : Nat) (hi : i < l.length), j < k → (l.flatMap f)[i * k + j]? = (f l[i])[j]?
  | x :: l, 0, j, _, hj => by
    rw [List.flatMap_cons, List.getElem?_append_left (by rw [hk]; omega)]
    simp
  | x :: l, i + 1, j, hi, hj => by
    have e : (i + 1) * k + j - (f x).length = i * k + j := by rw [hk, Nat.add_mul]; omega
    rw [List.flatMap_cons, List.getElem?_append_right (by rw [hk, Nat.add_mul]; omega), e, flat_get hk l i j (by simpa using hi) hj]
    simp
end Go.Proofs.YtjcfphdjgagimaaGreatDoor

/- leaf and tenderref07: Check, Same, Size, Clone, OfFile, OfDir, Name. -/
namespace Go.Proofs.YtjcfphdjgagimaaGreatDoor
open Go.RowKit

/-- what an answer to 'is a leaf right?' is -/
def checkN (k : Int) (n : Nat) : Int := if k = 1 then (if n ≤ 4096 then 0 else 13) else if k = 0 ∨ k = 2 then (if n = 0 then 0 else 2) else 2
/-- a leaf -/
structure LV where
  k : Int
  x : BV
def LV.cells (o : LV) : List Value := [.int .i64 o.k, .slice o.x.A o.x.l.length o.x.c]
abbrev LV.v (o : LV) : Value := .agg #[.int .i64 o.k, .slice o.x.A o.x.l.length o.x.c]

set_option maxHeartbeats 400000 in
theorem leafCheck_any (k : Int) (A : Option Addr) (n c : Nat) (w : World) (hn : n ≤ 140737488355328) :
    Calls Tryz.prog 59 #[.agg #[.int .i64 k, .slice A n c]] w fun e w' => e = .returned (.int .i64 (checkN k n)) ∧ Below w.heap.size w w' := by
  have h1 : k = 1 → n ≤ 4096 → Hid (checkN k n = 0) := fun h1 h2 => Lib.hid (by unfold checkN; rw [if_pos h1, if_pos h2])
  have h2 : k = 1 → ¬ n ≤ 4096 → Hid (checkN k n = 13) := fun h1 h2 => Lib.hid (by unfold checkN; rw [if_pos h1, if_neg h2])
  have h3 : k ≠ 1 → (k = 0 ∨ k = 2) → n = 0 → Hid (checkN k n = 0) := fun h1 h2 h3 => Lib.hid (by unfold checkN; rw [if_neg h1, if_pos h2, if_pos h3])
  have h4 : k ≠ 1 → (k = 0 ∨ k = 2) → n ≠ 0 → Hid (checkN k n = 2) := fun h1 h2 h3 => Lib.hid (by unfold checkN; rw [if_neg h1, if_pos h2, if_neg h3])
  have h5 : k ≠ 1 → ¬ (k = 0 ∨ k = 2) → Hid (checkN k n = 2) := fun h1 h2 => Lib.hid (by unfold checkN; rw [if_neg h1, if_neg h2])
  generalize checkN k n = r at *
  by_cases k1 : k = 1
  · by_cases hs : n ≤ 4096
    · have hr := h1 k1 hs
      clear h1 h2 h3 h4 h5
      subst k1
      go_enter Tryz.func59, Tryz.ntmps59
      go_wp2_with fail
      go_ret
      exact ⟨by rw [hr.out]; rfl, (by repeat (first | exact Below.refl _ _ | refine Below.alloc ?_ (by simp) _ | refine Below.setCell ?_ (by simp) _ | refine Below.drew ?_))⟩
    · have hr := h2 k1 hs
      clear h1 h2 h3 h4 h5
      subst k1
      go_enter Tryz.func59, Tryz.ntmps59
      go_wp2_with fail
      go_ret
      exact ⟨by rw [hr.out]; rfl, (by repeat (first | exact Below.refl _ _ | refine Below.alloc ?_ (by simp) _ | refine Below.setCell ?_ (by simp) _ | refine Below.drew ?_))⟩
  · have k1b : (k == 1) = false := by simpa using k1
    by_cases k0 : k = 0
    · by_cases hs : n = 0
      · have hr := h3 k1 (.inl k0) hs
        clear h1 h2 h3 h4 h5
        subst k0
        subst hs
        go_enter Tryz.func59, Tryz.ntmps59
        go_wp2_with fail
        go_ret
        exact ⟨by rw [hr.out]; rfl, (by repeat (first | exact Below.refl _ _ | refine Below.alloc ?_ (by simp) _ | refine Below.setCell ?_ (by simp) _ | refine Below.drew ?_))⟩
      · have hr := h4 k1 (.inl k0) hs
        clear h1 h2 h3 h4 h5
        subst k0
        go_enter Tryz.func59, Tryz.ntmps59
        go_wp2_with fail
        go_ret
        exact ⟨by rw [hr.out]; rfl, (by repeat (first | exact Below.refl _ _ | refine Below.alloc ?_ (by simp) _ | refine Below.setCell ?_ (by simp) _ | refine Below.drew ?_))⟩
    · have k0b : (k == 0) = false := by simpa using k0
      by_cases k2 : k = 2
      · by_cases hs : n = 0
        · have hr := h3 k1 (.inr k2) hs
          clear h1 h2 h3 h4 h5
          subst k2
          subst hs
          go_enter Tryz.func59, Tryz.ntmps59
          go_wp2_with fail
          go_ret
          exact ⟨by rw [hr.out]; rfl, (by repeat (first | exact Below.refl _ _ | refine Below.alloc ?_ (by simp) _ | refine Below.setCell ?_ (by simp) _ | refine Below.drew ?_))⟩
        · have hr := h4 k1 (.inr k2) hs
          clear h1 h2 h3 h4 h5
          subst k2
          go_enter Tryz.func59, Tryz.ntmps59
          go_wp2_with fail
          go_ret
          exact ⟨by rw [hr.out]; rfl, (by repeat (first | exact Below.refl _ _ | refine Below.alloc ?_ (by simp) _ | refine Below.setCell ?_ (by simp) _ | refine Below.drew ?_))⟩
      · have k2b : (k == 2) = false := by simpa using k2
        have hr := h5 k1 (fun h => h.elim k0 k2)
        clear h1 h2 h3 h4 h5
        by_cases g0 : k < 0
        · go_enter Tryz.func59, Tryz.ntmps59
          go_wp2_with fail
          go_ret
          exact ⟨by rw [hr.out]; rfl, (by repeat (first | exact Below.refl _ _ | refine Below.alloc ?_ (by simp) _ | refine Below.setCell ?_ (by simp) _ | refine Below.drew ?_))⟩
        · have g2 : 2 < k := by omega
          go_enter Tryz.func59, Tryz.ntmps59
          go_wp2_with fail
          go_ret
          exact ⟨by rw [hr.out]; rfl, (by repeat (first | exact Below.refl _ _ | refine Below.alloc ?_ (by simp) _ | refine Below.setCell ?_ (by simp) _ | refine Below.drew ?_))⟩

set_option maxHeartbeats 400000 in
theorem leafCheckR_any (k : Int) (A : Option Addr) (n c : Nat) (w : World) (hn : n ≤ 140737488355328) :
    Calls Tryz.prog 51 #[.agg #[.int .i64 k, .slice A n c]] w fun e w' => e = .returned (.int .i64 (checkN k n)) ∧ Below w.heap.size w w' := by
  have h1 : k = 1 → n ≤ 4096 → Hid (checkN k n = 0) := fun h1 h2 => Lib.hid (by unfold checkN; rw [if_pos h1, if_pos h2])
  have h2 : k = 1 → ¬ n ≤ 4096 → Hid (checkN k n = 13) := fun h1 h2 => Lib.hid (by unfold checkN; rw [if_pos h1, if_neg h2])
  have h3 : k ≠ 1 → (k = 0 ∨ k = 2) → n = 0 → Hid (checkN k n = 0) := fun h1 h2 h3 => Lib.hid (by unfold checkN; rw [if_neg h1, if_pos h2, if_pos h3])
  have h4 : k ≠ 1 → (k = 0 ∨ k = 2) → n ≠ 0 → Hid (checkN k n = 2) := fun h1 h2 h3 => Lib.hid (by unfold checkN; rw [if_neg h1, if_pos h2, if_neg h3])
  have h5 : k ≠ 1 → ¬ (k = 0 ∨ k = 2) → Hid (checkN k n = 2) := fun h1 h2 => Lib.hid (by unfold checkN; rw [if_neg h1, if_neg h2])
  generalize checkN k n = r at *
  by_cases k1 : k = 1
  · by_cases hs : n ≤ 4096
    · have hr := h1 k1 hs
      clear h1 h2 h3 h4 h5
      subst k1
      go_enter Tryz.func51, Tryz.ntmps51
      go_wp2_with fail
      go_ret
      exact ⟨by rw [hr.out]; rfl, (by repeat (first | exact Below.refl _ _ | refine Below.alloc ?_ (by simp) _ | refine Below.setCell ?_ (by simp) _ | refine Below.drew ?_))⟩
    · have hr := h2 k1 hs
      clear h1 h2 h3 h4 h5
      subst k1
      go_enter Tryz.func51, Tryz.ntmps51
      go_wp2_with fail
      go_ret
      exact ⟨by rw [hr.out]; rfl, (by repeat (first | exact Below.refl _ _ | refine Below.alloc ?_ (by simp) _ | refine Below.setCell ?_ (by simp) _ | refine Below.drew ?_))⟩
  · have k1b : (k == 1) = false := by simpa using k1
    by_cases k0 : k = 0
    · by_cases hs : n = 0
      · have hr := h3 k1 (.inl k0) hs
        clear h1 h2 h3 h4 h5
        subst k0
        subst hs
        go_enter Tryz.func51, Tryz.ntmps51
        go_wp2_with fail
        go_ret
        exact ⟨by rw [hr.out]; rfl, (by repeat (first | exact Below.refl _ _ | refine Below.alloc ?_ (by simp) _ | refine Below.setCell ?_ (by simp) _ | refine Below.drew ?_))⟩
      · have hr := h4 k1 (.inl k0) hs
        clear h1 h2 h3 h4 h5
        subst k0
        go_enter Tryz.func51, Tryz.ntmps51
        go_wp2_with fail
        go_ret
        exact ⟨by rw [hr.out]; rfl, (by repeat (first | exact Below.refl _ _ | refine Below.alloc ?_ (by simp) _ | refine Below.setCell ?_ (by simp) _ | refine Below.drew ?_))⟩
    · have k0b : (k == 0) = false := by simpa using k0
      by_cases k2 : k = 2
      · by_cases hs : n = 0
        · have hr := h3 k1 (.inr k2) hs
          clear h1 h2 h3 h4 h5
          subst k2
          subst hs
          go_enter Tryz.func51, Tryz.ntmps51
          go_wp2_with fail
          go_ret
          exact ⟨by rw [hr.out]; rfl, (by repeat (first | exact Below.refl _ _ | refine Below.alloc ?_ (by simp) _ | refine Below.setCell ?_ (by simp) _ | refine Below.drew ?_))⟩
        · have hr := h4 k1 (.inr k2) hs
          clear h1 h2 h3 h4 h5
          subst k2
          go_enter Tryz.func51, Tryz.ntmps51
          go_wp2_with fail
          go_ret
          exact ⟨by rw [hr.out]; rfl, (by repeat (first | exact Below.refl _ _ | refine Below.alloc ?_ (by simp) _ | refine Below.setCell ?_ (by simp) _ | refine Below.drew ?_))⟩
      · have k2b : (k == 2) = false := by simpa using k2
        have hr := h5 k1 (fun h => h.elim k0 k2)
        clear h1 h2 h3 h4 h5
        by_cases g0 : k < 0
        · go_enter Tryz.func51, Tryz.ntmps51
          go_wp2_with fail
          go_ret
          exact ⟨by rw [hr.out]; rfl, (by repeat (first | exact Below.refl _ _ | refine Below.alloc ?_ (by simp) _ | refine Below.setCell ?_ (by simp) _ | refine Below.drew ?_))⟩
        · have g2 : 2 < k := by omega
          go_enter Tryz.func51, Tryz.ntmps51
          go_wp2_with fail
          go_ret
          exact ⟨by rw [hr.out]; rfl, (by repeat (first | exact Below.refl _ _ | refine Below.alloc ?_ (by simp) _ | refine Below.setCell ?_ (by simp) _ | refine Below.drew ?_))⟩

set_option maxHeartbeats 400000 in
theorem leafSameR_any (k j : Int) (A B : Option Addr) (c d : Nat) (l m : List UInt8) (Z Z' : Nat → Prop) (w : World) (hl : By w Z A l) (hm : By w Z' B m) :
    Calls Tryz.prog 39 #[.agg #[.int .i64 k, .slice A l.length c], .agg #[.int .i64 j, .slice B m.length d]] w fun e w' => e = .returned (.bool (k == j && l == m)) ∧ Below w.heap.size w w' := by
  have k1 := conv_by ((hl.alloc (.cells #[.int .i64 k, .slice A l.length c] 46)).alloc (.cells #[.int .i64 j, .slice B m.length d] 46)) c
  have k2 := conv_by ((hm.alloc (.cells #[.int .i64 k, .slice A l.length c] 46)).alloc (.cells #[.int .i64 j, .slice B m.length d] 46)) d
  by_cases hk : k = j
  · have e1 := Lib.hid (show (k == j && l == m) = (l == m) by rw [show (k == j) = true by simpa using hk]; rfl)
    subst hk
    go_enter Tryz.func39, Tryz.ntmps39
    go_wp2_with fail
    go_ret
    exact ⟨ret_b e1.out.symm, (by repeat (first | exact Below.refl _ _ | refine Below.alloc ?_ (by simp) _ | refine Below.setCell ?_ (by simp) _ | refine Below.drew ?_))⟩
  · have hb : (k == j) = false := by simpa using hk
    have e1 := Lib.hid (show (k == j && l == m) = false by rw [hb]; rfl)
    go_enter Tryz.func39, Tryz.ntmps39
    go_wp2_with fail
    go_ret
    exact ⟨ret_b e1.out.symm, (by repeat (first | exact Below.refl _ _ | refine Below.alloc ?_ (by simp) _ | refine Below.setCell ?_ (by simp) _ | refine Below.drew ?_))⟩

/-- a result of two cells that is stored -/
theorem Blk.two {w : World} {b : Nat} {t : TypeId} {x y x' y' : Value} (h : Blk w b t #[x, y]) :
    Blk ((w.setCell ⟨b, 0, none⟩ x').setCell ⟨b, 1, none⟩ y') b t #[x', y'] ∧ Fr (fun k => k = b) w ((w.setCell ⟨b, 0, none⟩ x').setCell ⟨b, 1, none⟩ y') := by
  refine ⟨?_, ((Fr.refl (fun k => k = b) w).setAt b 0 rfl _).setAt b 1 rfl _⟩
  have := (h.set_ 0 x').set_ 1 y'
  simpa using this
/-- an owned row behind a store of a result -/
theorem OwB.past {w w' : World} {base b : Nat} {t : TypeId} {cs : Array Value} {v : Value} {l : List UInt8} (h : OwB w base v l) (hb : Blk w b t cs) (ht : 5 ≠ t) (k : Fr (fun k => k = b) w w') : OwB w' base v l :=
  h.fr k (fun g hg e => hb.own_ne h ht (by rw [hg, e]))

set_option maxHeartbeats 400000 in
theorem leafClone_any (k : Int) (A : Option Addr) (c : Nat) (l : List UInt8) (Z : Nat → Prop) (w : World) (h : By w Z A l) (hlen : l.length ≤ 140737488355328) :
    Calls Tryz.prog 57 #[.agg #[.int .i64 k, .slice A l.length c]] w fun e w' => ∃ (A' : Option Addr) (c' : Nat) (l' : List UInt8), e = .returned (.agg #[.int .i64 k, .slice A' l'.length c']) ∧ Hid (l' = l) ∧ OwB w' w.heap.size (.slice A' l'.length c') l' ∧ Below w.heap.size w w' := by
  have b0 := ((Blk.new w 46 #[.int .i64 k, .slice A l.length c]).alloc (.cells #[.int .i64 0, .slice none 0 0] 46))
  have b1 := Blk.new (w.alloc (.cells #[.int .i64 k, .slice A l.length c] 46)) 46 #[.int .i64 0, .slice none 0 0]
  have hz : (w.alloc (.cells #[.int .i64 k, .slice A l.length c] 46)).heap.size = w.heap.size + 1 := by simp
  rw [hz] at b1
  have hy := (h.alloc (.cells #[.int .i64 k, .slice A l.length c] 46)).alloc (.cells #[.int .i64 0, .slice none 0 0] 46)
  have hw : Below w.heap.size w ((w.alloc (.cells #[.int .i64 k, .slice A l.length c] 46)).alloc (.cells #[.int .i64 0, .slice none 0 0] 46)) := (by repeat (first | exact Below.refl _ _ | refine Below.alloc ?_ (by simp) _ | refine Below.setCell ?_ (by simp) _ | refine Below.drew ?_))
  go_enter Tryz.func57, Tryz.ntmps57
  go_wp2_with fail
  generalize (w.alloc (.cells #[.int .i64 k, .slice A l.length c] 46)).alloc (.cells #[.int .i64 0, .slice none 0 0] 46) = W at *
  have c0 : W.cell? ⟨w.heap.size, 0, none⟩ = some (.int .i64 k) := b0.cell 0
  have c1 : W.cell? ⟨w.heap.size, 1, none⟩ = some (.slice A l.length c) := b0.cell 1
  go_region_held3 (fun w' => w'.cell? ⟨w.heap.size, 0, none⟩ = some (.int .i64 k) ∧ w'.cell? ⟨w.heap.size, 1, none⟩ = some (.slice A l.length c))
    (first | assumption | exact ⟨c0, c1⟩ | exact ⟨e0, e1⟩ | exact ⟨((hb0.far (by simp) _).far (by simp) _).cell 0, ((hb0.far (by simp) _).far (by simp) _).cell 1⟩)
    (first
    | (go_at_call 60; refine (clone_any A c l Z _ hy.drew hlen).mono ?_; rintro e w1 ⟨A', c', l', rfl, h1, h2, h3⟩; have hb1 : Blk w1 (w.heap.size + 1) 46 #[.int .i64 0, .slice none 0 0] := b1.drew.below h3; have g0 : w1.cell? ⟨w.heap.size + 1, 0, none⟩ = some (.int .i64 0) := hb1.cell 0; have g1 : w1.cell? ⟨w.heap.size + 1, 1, none⟩ = some (.slice none 0 0) := hb1.cell 1; have f0 := hb1.frozen 0; have f1 := hb1.frozen 1; have hb0 : Blk w1 w.heap.size 46 #[.int .i64 k, .slice A l.length c] := b0.drew.below h3; have e0 : w1.cell? ⟨w.heap.size, 0, none⟩ = some (.int .i64 k) := hb0.cell 0; have e1 : w1.cell? ⟨w.heap.size, 1, none⟩ = some (.slice A l.length c) := hb0.cell 1))
  obtain ⟨hb2, hf2⟩ := Blk.two (x' := .int .i64 k) (y' := .slice A' l'.length c') hb1
  have hs1 := hw.size
  have hs3 : W.heap.size ≤ w1.heap.size := h3.size
  have hlow : Below w.heap.size w w1 := hw.drew.trans (h3.mono hs1)
  have ho := h2.past hb1 (by decide) hf2
  clear b0 b1 c0 c1 g0 g1 f0 f1 e0 e1 hb0 hb1
  generalize (w1.setCell ⟨w.heap.size + 1, 0, none⟩ (.int .i64 k)).setCell ⟨w.heap.size + 1, 1, none⟩ (.slice A' l'.length c') = V at *
  have d0 : V.cell? ⟨w.heap.size + 1, 0, none⟩ = some (.int .i64 k) := hb2.cell 0
  have d1 : V.cell? ⟨w.heap.size + 1, 1, none⟩ = some (.slice A' l'.length c') := hb2.cell 1
  go_wp2_with fail
  refine bodyPost_ret (v := .agg #[.int .i64 k, .slice A' l'.length c']) (by simp [results, Tryz.results57, go_sem, d0, d1]) rfl ?_
  exact ⟨A', c', l', rfl, h1, own_base ho (fun g hg => Nat.le_trans hs1 (h2.lt _ hg).1), hlow.trans (hf2.below (by omega) (by intro k hk e; omega))⟩
end Go.Proofs.YtjcfphdjgagimaaGreatDoor

/- tree.Tree in memory, and what is set on it, plainly. -/
namespace Go.Proofs.YtjcfphdjgagimaaGreatDoor
open Go.RowKit

/-- a leaf, plainly -/
abbrev LP := Int × List UInt8
def LV.p (o : LV) : LP := (o.k, o.x.l)
/-- the leaves of a row, plainly -/
def plainL (L : List (List UInt8 × LV)) : List (List UInt8 × LP) := L.map fun x => (x.1, x.2.p)
/-- the row as a map's -/
def mapL (L : List (List UInt8 × LV)) : List (List UInt8 × Value) := L.map fun x => (x.1, x.2.v)
def kindL (o : Option LP) : Int := (o.map (·.1)).getD 0
/-- what Set says, and what it leaves -/
def mayS (T : List (List UInt8 × LP)) (p : List UInt8) (l : LP) : Int :=
  if goodB p = false then 23
  else if checkN l.1 l.2.length ≠ 0 then checkN l.1 l.2.length
  else if l.1 ≠ 2 ∧ ((keysR T).filter fun q => underB q p) ≠ [] then 22
  else if l.1 = 0 then 0
  else if (parT p).2 = true ∧ kindL (getR T (parT p).1) ≠ 2 then 22
  else if (getR T p).isNone ∧ 128 ≤ T.length then 24
  else 0
def doS (T : List (List UInt8 × LP)) (p : List UInt8) (l : LP) : List (List UInt8 × LP) := if l.1 = 0 then withoutR T p else putR T p l
def setS (T : List (List UInt8 × LP)) (p : List UInt8) (l : LP) : List (List UInt8 × LP) := if mayS T p l = 0 then doS T p l else T
/-- what every tree keeps -/
structure TreeOk (T : List (List UInt8 × LP)) : Prop where
  sort : SortR T
  good : ∀ x ∈ T, goodB x.1 = true ∧ (x.2.1 = 1 ∨ x.2.1 = 2) ∧ checkN x.2.1 x.2.2.length = 0
  len : T.length ≤ 128
theorem TreeOk.nil : TreeOk [] := ⟨sortR_nil, by simp, by simp⟩
theorem checkN_kind {k : Int} {n : Nat} (h : checkN k n = 0) : k = 0 ∨ k = 1 ∨ k = 2 := by
  unfold checkN at h
  split at h
  · rename_i h1; exact .inr (.inl h1)
  · split at h
    · rename_i h2; rcases h2 with h2 | h2
      · exact .inl h2
      · exact .inr (.inr h2)
    · simp at h
theorem TreeOk.set {T : List (List UInt8 × LP)} (h : TreeOk T) (p : List UInt8) (l : LP) : TreeOk (setS T p l) := by
  unfold setS
  split
  · rename_i hm
    unfold mayS at hm
    split at hm
    · simp at hm
    · rename_i hg
      split at hm
      · rename_i hc; exact absurd hm hc
      · rename_i hc
        rw [Classical.not_not] at hc
        split at hm
        · simp at hm
        · unfold doS
          split
          · exact ⟨h.sort.without p, fun x hx => h.good x ((List.mem_filter.1 hx).1), Nat.le_trans (without_len_le T p) h.len⟩
          · rename_i h0
            rw [if_neg h0] at hm
            split at hm
            · simp at hm
            · split at hm
              · simp at hm
              · rename_i hf
                refine ⟨h.sort.put p l, fun x hx => ?_, ?_⟩
                · unfold putR at hx
                  rcases mem_ins.1 hx with rfl | hx
                  · refine ⟨by simpa using hg, ?_, hc⟩
                    rcases checkN_kind hc with e | e | e
                    · exact absurd e h0
                    · exact .inl e
                    · exact .inr e
                  · exact h.good x ((List.mem_filter.1 hx).1)
                · unfold putR
                  rw [ins_len]
                  rcases hq : getR T p with _ | v
                  · rw [hq] at hf
                    simp at hf
                    rw [without_self hq]
                    omega
                  · have := h.sort.without_len hq
                    have := h.len
                    omega
  · exact h

/-- the tree at block tb -/
structure TreeAt (w : World) (tb : Nat) (mo : Option Nat) (L : List (List UInt8 × LV)) : Prop where
  blk : Blk w tb 66 #[.map mo]
  map : (mo = none ∧ L = []) ∨ ∃ mb, mo = some mb ∧ MapAt w Tryz.prog 9 mb (mapL L)
  own : ∀ x ∈ L, OwB w 0 (.slice x.2.x.A x.2.x.l.length x.2.x.c) x.2.x.l
  plain : TreeOk (plainL L)
namespace TreeAt
variable {w w' : World} {tb : Nat} {mo : Option Nat} {L : List (List UInt8 × LV)}
theorem c0 (h : TreeAt w tb mo L) : w.cell? ⟨tb, 0, none⟩ = some (.map mo) := h.blk.cell 0
theorem f0 (h : TreeAt w tb mo L) : w.frozen? ⟨tb, 0, none⟩ = false := h.blk.frozen 0
theorem fr {S : Nat → Prop} (h : TreeAt w tb mo L) (k : Fr S w w') (h1 : ¬ S tb) (h2 : ∀ m, mo = some m → ¬ S m) (h3 : ∀ x ∈ L, ∀ g, (Value.slice x.2.x.A x.2.x.l.length x.2.x.c).ownBlock = some g → ¬ S g) : TreeAt w' tb mo L :=
  ⟨h.blk.fr k h1, h.map.imp id fun ⟨mb, e, hm⟩ => ⟨mb, e, hm.block (k.block mb hm.lt (h2 mb e))⟩, fun x hx => own_fr (h.own x hx) k (h3 x hx), h.plain⟩
theorem below (h : TreeAt w tb mo L) (k : Below w.heap.size w w') : TreeAt w' tb mo L := h.fr (Fr.of_below k (fun _ => False)) (fun h => h) (fun _ _ h => h) (fun _ _ _ _ h => h)
/-- a row of the call's own of cells does not lie where the map lies -/
theorem own_map {mb base n size : Nat} {e : TypeId} {v : Value} {xs : List Value} {K : List (List UInt8 × Value)} (hm : MapAt w Tryz.prog 9 mb K) (h : w.ownsRow base e size v n xs) : v.ownBlock ≠ some mb := by
  rcases h.2 with ⟨rfl, _⟩ | ⟨g', cap, cur, rfl, _, hh, _⟩
  · simp [Value.ownBlock]
  · intro he
    have e1 : g' = mb := by simpa [Value.ownBlock] using he
    subst e1
    exact hm.not_cells hh
/-- rows of the call's own do not lie in a tree's own blocks -/
theorem ownT (t : TreeAt w tb mo L) {base n size : Nat} {e : TypeId} {v : Value} {xs : List Value} (h : w.ownsRow base e size v n xs) (he : e ≠ 66) : ∀ g, v.ownBlock = some g → ¬ (g = tb ∨ mo = some g) := by
  rintro g hg (rfl | hm)
  · exact t.blk.own_ne h he hg
  · rcases t.map with ⟨e0, _⟩ | ⟨mb, e0, hm2⟩
    · rw [e0] at hm; cases hm
    · rw [e0] at hm
      injection hm with hm
      subst hm
      exact own_map hm2 h hg
theorem ok (h : TreeAt w tb mo L) : ∀ x ∈ L, x.2.x.ok w (fun b => b ≠ tb ∧ mo ≠ some b) := fun x hx => by
  have h1 := h.own x hx
  obtain ⟨A', c', e, h2, h3, h4⟩ := h1.form
  injection e with e1 e2 e3
  subst e1 e3
  refine ⟨h1.rd.mono (fun b _ hb => ?_), h2, h3⟩
  have h5 := h.ownT h1 (by decide) b (h4 b hb).2.2
  exact ⟨fun e => h5 (.inl e), fun e => h5 (.inr e)⟩
theorem ne (h : TreeAt w tb mo L) : mo ≠ some tb := by
  rcases h.map with ⟨e, _⟩ | ⟨mb, e, hm⟩
  · rw [e]; simp
  · rw [e]
    intro e2
    injection e2 with e2
    subst e2
    exact hm.not_cells h.blk
theorem lt (h : TreeAt w tb mo L) : ∀ m, mo = some m → m < w.heap.size := by
  rcases h.map with ⟨e, _⟩ | ⟨mb, e, hm⟩
  · rw [e]; simp
  · rw [e]
    intro m e2
    injection e2 with e2
    subst e2
    exact hm.lt
/-- a new one -/
theorem new (w : World) : TreeAt (w.alloc (.cells #[.map none] 66)) w.heap.size none [] := ⟨Blk.new _ _ _, .inl ⟨rfl, rfl⟩, by simp, TreeOk.nil⟩
end TreeAt
theorem get_plain (L : List (List UInt8 × LV)) (p : List UInt8) : getR (plainL L) p = (getR L p).map LV.p := getR_map LV.p L p
theorem get_mapL (L : List (List UInt8 × LV)) (p : List UInt8) : getR (mapL L) p = (getR L p).map LV.v := getR_map LV.v L p
theorem keys_plain (L : List (List UInt8 × LV)) : keysR (plainL L) = keysR L := keys_map LV.p L
theorem keys_mapL (L : List (List UInt8 × LV)) : keysR (mapL L) = keysR L := keys_map LV.v L
end Go.Proofs.YtjcfphdjgagimaaGreatDoor

/- tree.Tree: get, Get, Len. -/
namespace Go.Proofs.YtjcfphdjgagimaaGreatDoor
open Go.RowKit Go.Maps

/-- a leaf, or none -/
def leafO : Option LV → Value
  | some o => o.v
  | none => .agg #[.int .i64 0, .slice none 0 0]
theorem leaf_zero (w : World) : (zeroValue 46).run Tryz.prog w = .ok (.agg #[.int .i64 0, .slice none 0 0]) w := by kernel_rfl
theorem str_keyed : Keyed Tryz.prog 9 := string_keyed Tryz.underlying9
/-- what is looked up in a tree's map -/
theorem TreeAt.look {w : World} {tb : Nat} {mo : Option Nat} {L : List (List UInt8 × LV)} (h : TreeAt w tb mo L) (p : List UInt8) (hp : p.length ≤ maxLen) :
    (Instr.lookup 64 (.map mo) (.string ⟨⟨p⟩⟩) false).run Tryz.prog w = .ok (leafO (getR L p)) w := by
  rcases h.map with ⟨rfl, rfl⟩ | ⟨mb, rfl, hm⟩
  · exact Maps.look_nil false str_keyed Tryz.underlying64 (leaf_zero w) (Go.WideMaps.keyOf_string_mk Tryz.underlying9 (s := ⟨⟨p⟩⟩) hp)
  · rw [hm.look Tryz.underlying9 Tryz.underlying64 (leaf_zero w) p hp, get_mapL]
    rcases getR L p with _ | o <;> rfl
theorem TreeAt.look_ok {w : World} {tb : Nat} {mo : Option Nat} {L : List (List UInt8 × LV)} (h : TreeAt w tb mo L) (p : List UInt8) (hp : p.length ≤ maxLen) :
    (Instr.lookup 64 (.map mo) (.string ⟨⟨p⟩⟩) true).run Tryz.prog w = .ok (.tuple #[leafO (getR L p), .bool (getR L p).isSome]) w := by
  rcases h.map with ⟨rfl, rfl⟩ | ⟨mb, rfl, hm⟩
  · exact Maps.look_nil true str_keyed Tryz.underlying64 (leaf_zero w) (Go.WideMaps.keyOf_string_mk Tryz.underlying9 (s := ⟨⟨p⟩⟩) hp)
  · rw [hm.look_ok Tryz.underlying9 Tryz.underlying64 (leaf_zero w) p hp, get_mapL]
    rcases getR L p with _ | o <;> rfl
theorem TreeAt.count {w : World} {tb : Nat} {mo : Option Nat} {L : List (List UInt8 × LV)} (h : TreeAt w tb mo L) (ty : TypeId) :
    (Builtin.len_ #[64] ty #[.map mo]).run Tryz.prog w = .ok (.int .i64 L.length) w := by
  rcases h.map with ⟨rfl, rfl⟩ | ⟨mb, rfl, hm⟩
  · exact Maps.len_nil Tryz.underlying64 ty
  · rw [hm.count Tryz.underlying9 Tryz.underlying64 ty]
    simp [mapL]

set_option maxHeartbeats 400000 in
theorem treeget_any (tb : Nat) (mo : Option Nat) (L : List (List UInt8 × LV)) (p : List UInt8) (w : World) (h : TreeAt w tb mo L) (hp : p.length ≤ 140737488355328) :
    Calls Tryz.prog 73 #[.pointer (some ⟨tb, 0, none⟩), .string ⟨⟨p⟩⟩] w fun e w' => e = .returned (leafO (getR L p)) ∧ Below w.heap.size w w' := by
  have hb0 : Below w.heap.size w (w.alloc (.cells #[.int .i64 0, .slice none 0 0] 46)) := (by repeat (first | exact Below.refl _ _ | refine Below.alloc ?_ (by simp) _ | refine Below.setCell ?_ (by simp) _ | refine Below.drew ?_))
  have h0 := h.below hb0
  have c0 := h0.c0
  have hl := h0.look p (by simp only [maxLen]; omega)
  clear h h0
  generalize getR L p = o at *
  rcases o with _ | ⟨k, A, c, l⟩
  · unfold leafO at hl ⊢
    go_enter Tryz.func73, Tryz.ntmps73
    go_wp2_with fail
    refine bodyPost_ret (v := .agg #[.int .i64 0, .slice none 0 0]) (by simp [results, Tryz.results73, go_sem]) rfl ?_
    exact ⟨rfl, (by repeat (first | exact Below.refl _ _ | refine Below.alloc ?_ (by simp) _ | refine Below.setCell ?_ (by simp) _ | refine Below.drew ?_))⟩
  · unfold leafO LV.v at hl ⊢
    dsimp only at hl ⊢
    go_enter Tryz.func73, Tryz.ntmps73
    go_wp2_with fail
    refine bodyPost_ret (v := .agg #[.int .i64 k, .slice A l.length c]) (by simp [results, Tryz.results73, go_sem]) rfl ?_
    exact ⟨rfl, (by repeat (first | exact Below.refl _ _ | refine Below.alloc ?_ (by simp) _ | refine Below.setCell ?_ (by simp) _ | refine Below.drew ?_))⟩

/-- a leaf told to a caller: of his own -/
def LeafOwn (w : World) (base : Nat) (e : Ending) (o : Option LV) : Prop :=
  ∃ (A : Option Addr) (c : Nat) (l : List UInt8), e = .returned (.agg #[.int .i64 ((o.map LV.k).getD 0), .slice A l.length c]) ∧ Hid (l = (o.map fun x => x.x.l).getD []) ∧ OwB w base (.slice A l.length c) l
theorem TreeAt.small {w : World} {tb : Nat} {mo : Option Nat} {L : List (List UInt8 × LV)} (h : TreeAt w tb mo L) {x : List UInt8 × LV} (hx : x ∈ L) : x.2.x.l.length ≤ 4096 ∧ goodB x.1 = true ∧ (x.2.k = 1 ∨ x.2.k = 2) := by
  obtain ⟨g1, g2, g3⟩ := h.plain.good (x.1, x.2.p) (List.mem_map.2 ⟨x, hx, rfl⟩)
  refine ⟨?_, g1, g2⟩
  unfold checkN LV.p at g3
  dsimp only at g3
  split at g3
  · split at g3
    · assumption
    · simp at g3
  · split at g3
    · split at g3
      · omega
      · simp at g3
    · simp at g3
set_option maxHeartbeats 400000 in
theorem treeGet_ofP (va : Option Addr) (p : List UInt8) (w : World) (k : Int) (A : Option Addr) (c : Nat) (l : List UInt8) (Z : Nat → Prop) (hl : By w Z A l) (hn : l.length ≤ 4096)
    (hg : ∀ W, Below w.heap.size w W → Calls Tryz.prog 73 #[.pointer va, .string ⟨⟨p⟩⟩] W fun e w' => e = .returned (.agg #[.int .i64 k, .slice A l.length c]) ∧ Below W.heap.size W w') :
    Calls Tryz.prog 41 #[.pointer va, .string ⟨⟨p⟩⟩] w fun e w' => ∃ (A' : Option Addr) (c' : Nat) (l' : List UInt8), e = .returned (.agg #[.int .i64 k, .slice A' l'.length c']) ∧ Hid (l' = l) ∧ OwB w' w.heap.size (.slice A' l'.length c') l' ∧ Below w.heap.size w w' := by
  have hb0 : Below w.heap.size w (w.alloc (.cells #[.int .i64 0, .slice none 0 0] 46)) := (by repeat (first | exact Below.refl _ _ | refine Below.alloc ?_ (by simp) _ | refine Below.setCell ?_ (by simp) _ | refine Below.drew ?_))
  have x0 := Blk.new w 46 #[.int .i64 0, .slice none 0 0]
  have HG := Lib.hid hg
  have HL := Lib.hid hl
  clear hg hl
  go_enter Tryz.func41, Tryz.ntmps41
  go_wp2_with fail
  refine (HG.out _ hb0).mono ?_
  rintro e w1 ⟨rfl, hb1⟩
  have hw1 := hb0.trans (hb1.mono hb0.size)
  have x1 := x0.below hb1
  clear x0 hb0 hb1
  go_wp2_with fail
  refine (leafClone_any k A c l Z w1 (HL.out.below hw1) (by omega)).mono ?_
  rintro e w2 ⟨A', c', l', rfl, h1, h2, h3⟩
  have x2 := x1.below h3
  have hw2 := hw1.trans (h3.mono hw1.size)
  have d0 : w2.cell? ⟨w.heap.size, 0, none⟩ = some (.int .i64 0) := x2.cell 0
  have d1 : w2.cell? ⟨w.heap.size, 1, none⟩ = some (.slice none 0 0) := x2.cell 1
  have f0 := x2.frozen 0
  have f1 := x2.frozen 1
  obtain ⟨x3, k3⟩ := Blk.two (x' := .int .i64 k) (y' := .slice A' l'.length c') x2
  have ho := own_base (base' := w.heap.size) (h2.past x2 (by decide) k3) (fun g hg => Nat.le_trans hw1.size (h2.lt _ hg).1)
  have hw3 := hw2.trans (k3.below (B := w.heap.size) hw2.size (by intro k hk e; omega))
  go_wp2_with fail
  generalize (w2.setCell ⟨w.heap.size, 0, none⟩ (.int .i64 k)).setCell ⟨w.heap.size, 1, none⟩ (.slice A' l'.length c') = V at *
  have e0 : V.cell? ⟨w.heap.size, 0, none⟩ = some (.int .i64 k) := x3.cell 0
  have e1 : V.cell? ⟨w.heap.size, 1, none⟩ = some (.slice A' l'.length c') := x3.cell 1
  refine bodyPost_ret (v := .agg #[.int .i64 k, .slice A' l'.length c']) (by simp [results, Tryz.results41, go_sem, e0, e1]) rfl ?_
  exact ⟨A', c', l', rfl, h1, ho, hw3⟩
theorem treeGet_any (tb : Nat) (mo : Option Nat) (L : List (List UInt8 × LV)) (p : List UInt8) (w : World) (h : TreeAt w tb mo L) (hp : p.length ≤ 140737488355328) :
    Calls Tryz.prog 41 #[.pointer (some ⟨tb, 0, none⟩), .string ⟨⟨p⟩⟩] w fun e w' => LeafOwn w' w.heap.size e (getR L p) ∧ Below w.heap.size w w' := by
  have hg := fun W (hW : Below w.heap.size w W) => treeget_any tb mo L p W (h.below hW) hp
  rcases hq : getR L p with _ | ⟨k, A, c, l⟩
  · rw [hq] at hg
    refine (treeGet_ofP (some ⟨tb, 0, none⟩) p w 0 none 0 [] (fun _ => False) Rd.nil (by simp) hg).mono ?_
    rintro e w' ⟨A', c', l', rfl, h1, h2, h3⟩
    exact ⟨⟨A', c', l', rfl, h1, h2⟩, h3⟩
  · rw [hq] at hg
    have hm := getR_mem hq
    refine (treeGet_ofP (some ⟨tb, 0, none⟩) p w k A c l _ (h.ok _ hm).1 (h.small hm).1 hg).mono ?_
    rintro e w' ⟨A', c', l', rfl, h1, h2, h3⟩
    exact ⟨⟨A', c', l', rfl, h1, h2⟩, h3⟩
theorem treeLen_any (tb : Nat) (mo : Option Nat) (L : List (List UInt8 × LV)) (w : World) (h : TreeAt w tb mo L) :
    Calls Tryz.prog 18 #[.pointer (some ⟨tb, 0, none⟩)] w fun e w' => e = .returned (.int .i64 (L.length : Int)) ∧ w = w' := by
  have c0 := h.c0
  have hc := fun ty => h.count ty
  clear h
  go_enter Tryz.func18, Tryz.ntmps18
  go_wp2_with fail
  go_ret
  exact ⟨rfl, rfl⟩
end Go.Proofs.YtjcfphdjgagimaaGreatDoor

/- name.Compare. -/
namespace Go.Proofs.YtjcfphdjgagimaaGreatDoor
open Go.RowKit

theorem less_cmp : ∀ a b : List UInt8, Op.bytesLess a b = decide (cmpB a b < 0)
  | [], [] => by simp [Op.bytesLess, cmpB, cmpL]
  | _ :: _, [] => by simp [Op.bytesLess, cmpB, cmpL]
  | [], _ :: _ => by simp [Op.bytesLess, cmpB, cmpL]
  | x :: a, y :: b => by
    have ih := less_cmp a b
    unfold cmpB at ih ⊢
    rw [Op.bytesLess, ih, cmpL]
    unfold cmp1
    rw [Bool.eq_iff_iff]
    by_cases h1 : x.toNat < y.toNat
    · simp [h1, UInt8.lt_iff_toNat_lt]
    · by_cases h2 : y.toNat < x.toNat
      · have : ¬ x = y := by rintro rfl; omega
        simp [h1, h2, UInt8.lt_iff_toNat_lt, this]
      · have : x = y := UInt8.toNat_inj.1 (by omega)
        subst this
        simp
theorem nan_str (s : ByteArray) (w : World) : Calls Tryz.prog 88 #[.string s] w fun e w' => e = .returned (.bool false) ∧ w = w' := by
  go_enter Tryz.func88, Tryz.ntmps88
  go_wp2_with fail
  go_ret
  exact ⟨rfl, rfl⟩
theorem cmpStr_any (s t : ByteArray) (w : World) : Calls Tryz.prog 64 #[.string s, .string t] w fun e w' => e = .returned (.int .i64 (cmpB (tl s) (tl t))) ∧ w = w' := by
  obtain ⟨a, ha⟩ : ∃ a, s.data.toList = a := ⟨_, rfl⟩
  obtain ⟨b, hb⟩ : ∃ b, t.data.toList = b := ⟨_, rfl⟩
  have hr := ordB.rng a b
  have HL := Lib.hid (less_cmp a b)
  have HQ := Lib.hid (ordB.eq a b)
  have EA := Lib.hid (show s.toList = a by rw [ByteArray.toList_eq, ha])
  have EB := Lib.hid (show t.toList = b by rw [ByteArray.toList_eq, hb])
  rw [show tl s = a from ha, show tl t = b from hb]
  clear ha hb
  go_enter Tryz.func64, Tryz.ntmps64
  go_wp2_with (first | (go_at_call 88; refine (nan_str _ _).mono ?_; rintro e w1 ⟨rfl, rfl⟩))
  all_goals
    go_ret
    refine ⟨ret_i ?_, rfl⟩
    simp only [EA.out, EB.out] at *
  · have h1 : Op.bytesLess a b = true := by assumption
    rw [HL.out] at h1
    simp at h1
    omega
  · have h1 : Op.bytesLess a b = false := by assumption
    have h2 : (!a == b) = true := by assumption
    rw [HL.out] at h1
    simp at h1 h2
    have := mt HQ.out.1 h2
    omega
  · have h2 : (!a == b) = false := by assumption
    simp at h2
    exact (HQ.out.2 h2).symm
theorem at_any (x : Bool) (w : World) : Calls Tryz.prog 65 #[.bool x] w fun e w' => e = .returned (.int .i64 (if x then 1 else 0)) ∧ w = w' := by
  cases x
  · go_enter Tryz.func65, Tryz.ntmps65
    go_wp2_with fail
    go_ret
    exact ⟨rfl, rfl⟩
  · go_enter Tryz.func65, Tryz.ntmps65
    go_wp2_with fail
    go_ret
    exact ⟨rfl, rfl⟩
/-- one part and whether there is more -/
structure CutTo (s x r : ByteArray) (m : Bool) : Prop where
  call : ∀ w, Calls Tryz.prog 63 #[.string s, .string ⟨#[47]⟩] w fun e w' => e = .returned (.tuple #[.string x, .string r, .bool m]) ∧ Qt w w'
  eq : cutL (tl s) = tl x :: (if m then cutL (tl r) else [])
  size : if m then r.size < s.size else True
  le : x.size ≤ s.size
theorem cut_to (s : ByteArray) (hs : s.size ≤ 9223372036854775807) : ∃ x r m, CutTo s x r m := by
  rcases cut_ways s with ⟨hi, hx⟩ | ⟨i, hi, hit, hx⟩
  · exact ⟨s, ⟨#[]⟩, false, fun w => strCut_none s w hi, by simpa using hx, by simp, Nat.le_refl _⟩
  · exact ⟨_, _, true, fun w => strCut_at s i w hi hit hs, by simpa using hx, by simp; omega, by simp; omega⟩
def strOf : Value → Nat | .string s => s.size | _ => 0
set_option maxHeartbeats 1000000 in
theorem compare_any (a b : ByteArray) (ha : a.size ≤ 9223372036854775807) (hb : b.size ≤ 9223372036854775807) (w : World) : Calls Tryz.prog 31 #[.string a, .string b] w fun e w' => e = .returned (.int .i64 (cmpT (tl a) (tl b))) ∧ Qt w w' := by
  go_enter Tryz.func31, Tryz.ntmps31
  go_wp2_with fail
  go_loopw [0, 1] (fun av bv wr => ∃ x y : ByteArray, av = .string x ∧ bv = .string y ∧ x.size ≤ a.size ∧ y.size ≤ b.size ∧ Hid (cmpT (tl x) (tl y) = cmpT (tl a) (tl b)) ∧ Qt w wr) (fun av _ _ => strOf av)
  case atStart => exact ⟨a, b, rfl, rfl, Nat.le_refl _, Nat.le_refl _, rfl, Qt.refl _⟩
  case round =>
    obtain ⟨x, y, rfl, rfl, hxa, hyb, hC, hq⟩ := hrel
    obtain ⟨x1, xr, xm, kx⟩ := cut_to x (by omega)
    obtain ⟨y1, yr, ym, ky⟩ := cut_to y (by omega)
    have ex := kx.eq
    have ey := ky.eq
    have sx := kx.size
    have sy := ky.size
    have hR : cmpT (tl x) (tl y) = if cmpB (tl x1) (tl y1) = 0 then cmpP (if xm then cutL (tl xr) else []) (if ym then cutL (tl yr) else []) else cmpB (tl x1) (tl y1) := by
      unfold cmpT
      rw [ex, ey]
      rfl
    have HR := Lib.hid (hC.out.symm.trans hR)
    clear hR ex ey hC
    by_cases h1 : x1 = y1
    · subst h1
      rw [if_pos (cmpB_self _)] at HR
      have hy1 := neq_yes (rfl : x1 = x1)
      have HF : ∀ m : Bool, Hid ((if m = true then (1 : Int) else 0) = if m then 1 else 0) := fun _ => rfl
      by_cases hm : xm = true ∧ ym = true
      · obtain ⟨rfl, rfl⟩ := hm
        rw [if_pos rfl] at sx sy
        go_wp2_with fail
        refine (kx.call _).mono ?_
        rintro e w1 ⟨rfl, n1, rfl⟩
        go_wp2_with fail
        refine (ky.call _).mono ?_
        rintro e w1 ⟨rfl, n2, rfl⟩
        go_wp2_with fail
        go_roundw
        case rel => exact ⟨xr, yr, rfl, rfl, by omega, by omega, HR.out.symm, hq.trans ⟨n1 + n2, rfl⟩⟩
        case measure => simp [strOf]; exact sx
      · have HS : Hid (cmpP (if xm = true then cutL (tl xr) else []) (if ym = true then cutL (tl yr) else []) = (if xm = true then 1 else 0) - (if ym = true then 1 else 0)) := by
          show _ = _
          cases xm <;> cases ym
          · rfl
          · obtain ⟨z, zs, e⟩ := List.exists_cons_of_ne_nil (cutL_ne (tl yr))
            simp [cmpP, cmpL, e]
          · obtain ⟨z, zs, e⟩ := List.exists_cons_of_ne_nil (cutL_ne (tl xr))
            simp [cmpP, cmpL, e]
          · simp at hm
        have HR2 := Lib.hid (HR.out.trans HS.out)
        clear HR HS sx sy
        cases xm <;> cases ym
        case true.true => simp at hm
        all_goals
          clear hm
          go_wp2_with fail
          refine (kx.call _).mono ?_
          rintro e w1 ⟨rfl, n1, rfl⟩
          go_wp2_with fail
          refine (ky.call _).mono ?_
          rintro e w1 ⟨rfl, n2, rfl⟩
          go_wp2_with (go_at_call 65; refine (at_any _ _).mono ?_; rintro e w1 ⟨rfl, rfl⟩)
          go_ret
          exact ⟨ret_i (by rw [HR2.out]; rfl), hq.trans ⟨n1 + n2, rfl⟩⟩
    · have hne : cmpB (tl x1) (tl y1) ≠ 0 := fun e => h1 (tl_inj ((ordB.eq _ _).1 e))
      rw [if_neg hne] at HR
      have hn := neq_no h1
      clear hne sx sy
      go_wp2_with fail
      refine (kx.call _).mono ?_
      rintro e w1 ⟨rfl, n1, rfl⟩
      go_wp2_with fail
      refine (ky.call _).mono ?_
      rintro e w1 ⟨rfl, n2, rfl⟩
      go_wp2_with fail
      refine (cmpStr_any _ _ _).mono ?_
      rintro e w1 ⟨rfl, rfl⟩
      go_wp2_with fail
      go_ret
      exact ⟨ret_i HR.out.symm, hq.trans ⟨n1 + n2, rfl⟩⟩

end Go.Proofs.YtjcfphdjgagimaaGreatDoor

/- What slices.SortFunc of texts by name.Compare does, as a premise. -/
namespace Go.Proofs.YtjcfphdjgagimaaGreatDoor
open Go.RowKit Go.Maps

/-- texts sorted by name.Compare -/
def SortsT : Prop := ∀ (base : Nat) (A : Option Addr) (c : Nat) (ss : List (List UInt8)) (w : World), w.ownsRow base 9 1 (.slice A ss.length c) ss.length (ss.map stv) → (∀ x ∈ ss, x.length ≤ 140737488355328) → ss.length ≤ 1099511627776 →
  Calls Tryz.prog 91 #[.slice A ss.length c, .func (.func 31) #[] #[]] w fun e w' => e = .returned (.tuple #[]) ∧ w'.ownsRow base 9 1 (.slice A ss.length c) ss.length ((ss.mergeSort leT).map stv) ∧ w.grownBy w' (ablk A)
theorem below_grown {w w' : World} (h : Below w.heap.size w w') : w.grownBy w' none := ⟨h.os, h.tape, h.output, h.size, fun k hk _ => h.block k hk⟩
theorem grown_below {B : Nat} {w w' : World} {row : Option Nat} (h : w.grownBy w' row) (hB : B ≤ w.heap.size) (hr : ∀ g, row = some g → B ≤ g) : Below B w w' := ⟨h.os, h.tape, h.output, h.size, fun k hk => h.block k (by omega) (fun e => by have := hr k e.symm; omega)⟩
end Go.Proofs.YtjcfphdjgagimaaGreatDoor

/- tree.Tree's paths: those of which something holds, in order. -/
namespace Go.Proofs.YtjcfphdjgagimaaGreatDoor
open Go.RowKit Go.Maps


set_option maxRecDepth 100000 in
set_option maxHeartbeats 1000000 in
theorem pathsBelow_any (hS : SortsT) (tb : Nat) (mo : Option Nat) (L : List (List UInt8 × LV)) (f : List UInt8 → Bool) (xb : Nat) (w : World) (h : TreeAt w tb mo L)
    (hc : ∀ W, Below w.heap.size w W → ∀ p ∈ keysR L, Calls Tryz.prog 99 #[.string ⟨⟨p⟩⟩, .pointer (some ⟨xb, 0, none⟩)] W fun e w' => e = .returned (.bool (f p)) ∧ Below W.heap.size W w') :
    Calls Tryz.prog 71 #[.pointer (some ⟨tb, 0, none⟩), .func (.func 99) #[] #[.pointer (some ⟨xb, 0, none⟩)]] w fun e w' => ∃ (A : Option Addr) (c : Nat) (l : List (List UInt8)), e = .returned (.slice A l.length c) ∧ Hid (l = (keysR L).filter f) ∧ w'.ownsRow w.heap.size 9 1 (.slice A l.length c) l.length (l.map stv) ∧ Below w.heap.size w w' := by
  have c0 := h.c0
  have hT := Lib.hid h
  have hkl : ∀ p ∈ keysR L, p.length ≤ 96 := fun p hp => by
    obtain ⟨x, hx, rfl⟩ := List.mem_map.1 hp
    exact goodB_len (h.small hx).2.1
  rcases h.map with ⟨rfl, rfl⟩ | ⟨mb, rfl, hm⟩
  · have hrg := run_range_nilMap (P := Tryz.prog) w 64 9 46 Tryz.underlying64
    have hnx := fun ty => run_next_nilMap (P := Tryz.prog) w ty 0 0 #[]
    have hb0 : Below w.heap.size w (w.alloc (.mapIter none 0 #[] 0)) := (Below.refl _ _).alloc (Nat.le_refl _) _
    generalize w.alloc (.mapIter none 0 #[] 0) = W0 at *
    have hbs := hb0.size
    have H0 := Lib.hid hb0
    clear h hc hkl hb0
    go_enter Tryz.func71, Tryz.ntmps71
    go_wp2_with fail
    go_loopw [4] (fun ov wr => ov = .slice none 0 0 ∧ wr = W0) (fun _ _ => 0)
    case atStart => exact ⟨rfl, rfl⟩
    case round =>
      obtain ⟨rfl, rfl⟩ := hrel
      have h00 : (Value.slice none 0 0) = .slice none ([] : List (List UInt8)).length 0 := rfl
      go_wp2_with fail
      refine (hS w.heap.size none 0 [] wr (World.ownsRow_nil _ _ _ _) (by simp) (by simp)).mono ?_
      rintro e w2 ⟨rfl, hown2, hg2⟩
      go_wp2_with fail
      go_ret
      exact ⟨none, 0, [], rfl, rfl, by simpa using hown2, H0.out.trans (grown_below hg2 hbs (by simp [ablk]))⟩
  · obtain ⟨w0, hrun, hr0, hg0, hs0⟩ := hm.range Tryz.underlying9 Tryz.underlying64
    have hb0 : Below w.heap.size w w0 := grown_below hg0 (Nat.le_refl _) (by simp)
    clear hm h
    obtain ⟨i0, hi0, hz0, hz1, hz2⟩ := info_parts str_info
    go_enter Tryz.func71, Tryz.ntmps71
    go_wp2_with fail
    have hkeys := keys_mapL L
    go_loopw [4] (fun ov wr => ∃ (seen : List (List UInt8)) (cnt : Nat) (ss : List (List UInt8)) (A : Option Addr) (c : Nat), ov = .slice A ss.length c ∧ Rng wr Tryz.prog 9 mb w.heap.size (mapL L) seen cnt ∧ seen.length ≤ L.length ∧ wr.ownsRow (w.heap.size + 1) 9 1 (.slice A ss.length c) ss.length (ss.map stv) ∧ Hid (ss = seen.filter f) ∧ (∀ x ∈ ss, x.length ≤ 96) ∧ Below w.heap.size w wr) (fun _ wr => wr.rangeLeft mb w.heap.size)
    case atStart => exact ⟨[], _, [], none, 0, rfl, hr0, by simp, World.ownsRow_nil _ _ _ _, rfl, by simp, hb0⟩
    case round =>
      obtain ⟨seen, cnt, ss, A, c, rfl, hr, hsl, hown, hss, hsx, hb⟩ := hrel
      have hlr := hr.lt
      have hsz := hb.size
      have hssl : ss.length ≤ 128 := by
        have := (hT.out.plain).len
        have h2 : ss.length ≤ seen.length := by rw [hss.out]; exact List.length_filter_le _ _
        have h3 : (plainL L).length = L.length := by simp [plainL]
        omega
      rcases hr.next Tryz.underlying9 0 with ⟨hrun, h0, hnd, hall⟩ | ⟨p, v, w1, cnt1, hpv, hpn, hrun, hr1, hlt, hg1, hs1, hen⟩
      · have hfin : ss.mergeSort leT = (keysR L).filter f := by
          rw [hss.out]
          refine sort_keys ((sort_map LV.v (L := L)).1 hr.sort) f (hnd.filter _) fun k => ?_
          rw [List.mem_filter, hall, hkeys]
        have HF := Lib.hid hfin
        clear hfin hss hall hnd
        go_wp2_with fail
        refine (hS _ A c ss _ hown (fun x hx => by have := hsx x hx; omega) (by omega)).mono ?_
        rintro e w2 ⟨rfl, hown2, hg2⟩
        have hab : ∀ g, ablk A = some g → w.heap.size ≤ g := fun g hg => by have := (Row.of_own hown).lt g hg; omega
        go_wp2_with fail
        go_ret
        have hml : (ss.mergeSort leT).length = ss.length := List.length_mergeSort ss
        refine ⟨A, c, ss.mergeSort leT, by rw [hml]; rfl, HF.out, ?_, hb.trans (grown_below hg2 hsz hab)⟩
        rw [hml]
        exact own_base hown2 (fun g hg => by have := (hown2.lt g hg).1; omega)
      · have hpk : p ∈ keysR L := by rw [← hkeys]; exact List.mem_map.2 ⟨_, hpv, rfl⟩
        have hp96 := hkl p hpk
        have hb1 : Below w.heap.size w w1 := hb.trans (grown_below hg1 hsz (fun g hg => by injection hg with hg; omega))
        have hne : (Value.slice A ss.length c).ownBlock ≠ some w.heap.size := fun e => by have := (hown.lt _ e).1; omega
        have hown1 : w1.ownsRow (w.heap.size + 1) 9 1 (.slice A ss.length c) ss.length (ss.map stv) := own_fr hown (Fr.of_grown hg1 (S := fun g => g = w.heap.size) (fun k _ e => by injection e with e; exact e.symm)) (fun g hg e => hne (by rw [hg, e]))
        have hsl2 : (seen ++ [p]).length ≤ L.length := by
          obtain ⟨D, left, _, h4, hcol⟩ := hr1.rng
          have h2 : (seen ++ [p]) ⊆ keysR (mapL L) := fun k hk => by
            have := ((hcol.2 k).1 hk).1
            rw [h4.has] at this
            exact getR_isSome.1 this
          have := nodup_len _ _ hcol.1 h2
          rw [keys_len] at this
          simpa [mapL] using this
        have HC := Lib.hid (hc w1 hb1 p hpk)
        have hss2 : Hid ((seen ++ [p]).filter f = if f p = true then ss ++ [p] else ss) := by
          show _ = _
          rw [List.filter_append, ← hss.out]
          by_cases hf : f p = true
          · rw [if_pos hf, List.filter_cons, if_pos hf]; rfl
          · rw [if_neg hf, List.filter_cons, if_neg hf]; simp
        have hleft := hr.left_eq
        clear hss hown hr hb
        generalize f p = b at HC hss2
        cases b
        · go_wp2_with fail
          refine HC.out.mono ?_
          rintro e w2 ⟨rfl, hb2⟩
          have hr2 := hr1.kept (below_grown hb2) (by simp) (by simp)
          go_wp2_with fail
          go_roundw
          case rel => exact ⟨seen ++ [p], cnt1, ss, A, c, rfl, hr2, hsl2, own_below hown1 hb2, by show _ = _; rw [hss2.out]; simp, hsx, hb1.trans (hb2.mono hb1.size)⟩
          case measure => rw [hr2.left_eq, hleft]; omega
        · go_wp2_with fail
          refine HC.out.mono ?_
          rintro e w2 ⟨rfl, hb2⟩
          have hr2 := hr1.kept (below_grown hb2) (by simp) (by simp)
          have hown2 := own_below hown1 hb2
          have HO := Lib.hid (World.ownsRow.alloc hown2 (.cells #[stv p] 9))
          have hs2 := hb2.size
          have hmb : mb < w.heap.size := by
            rcases hT.out.map with ⟨e, _⟩ | ⟨mb', e, hm⟩
            · cases e
            · injection e with e; rw [e]; exact hm.lt
          go_wp2_with (at_builtin; refine wpList_append_any _ rfl (.tmp 20) (.tmp 22) 84 rfl (w.heap.size + 1) 9 i0 _ 1 16 Tryz.underlying84 hi0 hz0 hz1 hz2 rfl (by omega) (.slice A ss.length c) ss.length (ss.map stv) rfl HO.out _ _ 1 1 [stv p] rfl (Rd.lit (xs := [stv p]) (n := 1) rfl rfl rfl) (by simp [Value.oneCell', stv]) (by simp only [maxLen]; omega) (by omega) (by simp; omega) ?_; intro v3 w3 hown3 hg3 hat3; obtain ⟨A3, c3, rfl, _⟩ := own_form hown3)
          have hr3 : Rng w3 Tryz.prog 9 mb w.heap.size (mapL L) (seen ++ [p]) cnt1 := (hr2.kept (World.grownBy_alloc _ _ none) (by simp) (by simp)).kept hg3 (fun e => by have := (hown2.lt _ e.symm).1; omega) (fun e => by have := (hown2.lt _ e.symm).1; omega)
          have hb3 : Below w.heap.size w w3 := ((hb1.trans (hb2.mono hb1.size)).alloc (by omega) _).trans (grown_below hg3 (by simp; omega) (fun g hg => by have := (hown2.lt _ hg).1; omega))
          go_roundw
          case rel =>
            refine ⟨seen ++ [p], cnt1, ss ++ [p], A3, c3, by simp, hr3, hsl2, ?_, by show _ = _; rw [hss2.out]; simp, fun x hx => ?_, hb3⟩
            · rw [List.length_append, List.map_append]
              exact hown3
            · rcases List.mem_append.1 hx with hx | hx
              · exact hsx x hx
              · rw [List.mem_singleton.1 hx]; exact hp96
          case measure => rw [hr3.left_eq, hleft]; omega


set_option maxRecDepth 100000 in
set_option maxHeartbeats 1000000 in
theorem pathsAll_any (hS : SortsT) (tb : Nat) (mo : Option Nat) (L : List (List UInt8 × LV)) (f : List UInt8 → Bool)  (w : World) (h : TreeAt w tb mo L)
    (hc : ∀ W, Below w.heap.size w W → ∀ p ∈ keysR L, Calls Tryz.prog 72 #[.string ⟨⟨p⟩⟩] W fun e w' => e = .returned (.bool (f p)) ∧ Below W.heap.size W w') :
    Calls Tryz.prog 71 #[.pointer (some ⟨tb, 0, none⟩), .func (.func 72) #[] #[]] w fun e w' => ∃ (A : Option Addr) (c : Nat) (l : List (List UInt8)), e = .returned (.slice A l.length c) ∧ Hid (l = (keysR L).filter f) ∧ w'.ownsRow w.heap.size 9 1 (.slice A l.length c) l.length (l.map stv) ∧ Below w.heap.size w w' := by
  have c0 := h.c0
  have hT := Lib.hid h
  have hkl : ∀ p ∈ keysR L, p.length ≤ 96 := fun p hp => by
    obtain ⟨x, hx, rfl⟩ := List.mem_map.1 hp
    exact goodB_len (h.small hx).2.1
  rcases h.map with ⟨rfl, rfl⟩ | ⟨mb, rfl, hm⟩
  · have hrg := run_range_nilMap (P := Tryz.prog) w 64 9 46 Tryz.underlying64
    have hnx := fun ty => run_next_nilMap (P := Tryz.prog) w ty 0 0 #[]
    have hb0 : Below w.heap.size w (w.alloc (.mapIter none 0 #[] 0)) := (Below.refl _ _).alloc (Nat.le_refl _) _
    generalize w.alloc (.mapIter none 0 #[] 0) = W0 at *
    have hbs := hb0.size
    have H0 := Lib.hid hb0
    clear h hc hkl hb0
    go_enter Tryz.func71, Tryz.ntmps71
    go_wp2_with fail
    go_loopw [4] (fun ov wr => ov = .slice none 0 0 ∧ wr = W0) (fun _ _ => 0)
    case atStart => exact ⟨rfl, rfl⟩
    case round =>
      obtain ⟨rfl, rfl⟩ := hrel
      have h00 : (Value.slice none 0 0) = .slice none ([] : List (List UInt8)).length 0 := rfl
      go_wp2_with fail
      refine (hS w.heap.size none 0 [] wr (World.ownsRow_nil _ _ _ _) (by simp) (by simp)).mono ?_
      rintro e w2 ⟨rfl, hown2, hg2⟩
      go_wp2_with fail
      go_ret
      exact ⟨none, 0, [], rfl, rfl, by simpa using hown2, H0.out.trans (grown_below hg2 hbs (by simp [ablk]))⟩
  · obtain ⟨w0, hrun, hr0, hg0, hs0⟩ := hm.range Tryz.underlying9 Tryz.underlying64
    have hb0 : Below w.heap.size w w0 := grown_below hg0 (Nat.le_refl _) (by simp)
    clear hm h
    obtain ⟨i0, hi0, hz0, hz1, hz2⟩ := info_parts str_info
    go_enter Tryz.func71, Tryz.ntmps71
    go_wp2_with fail
    have hkeys := keys_mapL L
    go_loopw [4] (fun ov wr => ∃ (seen : List (List UInt8)) (cnt : Nat) (ss : List (List UInt8)) (A : Option Addr) (c : Nat), ov = .slice A ss.length c ∧ Rng wr Tryz.prog 9 mb w.heap.size (mapL L) seen cnt ∧ seen.length ≤ L.length ∧ wr.ownsRow (w.heap.size + 1) 9 1 (.slice A ss.length c) ss.length (ss.map stv) ∧ Hid (ss = seen.filter f) ∧ (∀ x ∈ ss, x.length ≤ 96) ∧ Below w.heap.size w wr) (fun _ wr => wr.rangeLeft mb w.heap.size)
    case atStart => exact ⟨[], _, [], none, 0, rfl, hr0, by simp, World.ownsRow_nil _ _ _ _, rfl, by simp, hb0⟩
    case round =>
      obtain ⟨seen, cnt, ss, A, c, rfl, hr, hsl, hown, hss, hsx, hb⟩ := hrel
      have hlr := hr.lt
      have hsz := hb.size
      have hssl : ss.length ≤ 128 := by
        have := (hT.out.plain).len
        have h2 : ss.length ≤ seen.length := by rw [hss.out]; exact List.length_filter_le _ _
        have h3 : (plainL L).length = L.length := by simp [plainL]
        omega
      rcases hr.next Tryz.underlying9 0 with ⟨hrun, h0, hnd, hall⟩ | ⟨p, v, w1, cnt1, hpv, hpn, hrun, hr1, hlt, hg1, hs1, hen⟩
      · have hfin : ss.mergeSort leT = (keysR L).filter f := by
          rw [hss.out]
          refine sort_keys ((sort_map LV.v (L := L)).1 hr.sort) f (hnd.filter _) fun k => ?_
          rw [List.mem_filter, hall, hkeys]
        have HF := Lib.hid hfin
        clear hfin hss hall hnd
        go_wp2_with fail
        refine (hS _ A c ss _ hown (fun x hx => by have := hsx x hx; omega) (by omega)).mono ?_
        rintro e w2 ⟨rfl, hown2, hg2⟩
        have hab : ∀ g, ablk A = some g → w.heap.size ≤ g := fun g hg => by have := (Row.of_own hown).lt g hg; omega
        go_wp2_with fail
        go_ret
        have hml : (ss.mergeSort leT).length = ss.length := List.length_mergeSort ss
        refine ⟨A, c, ss.mergeSort leT, by rw [hml]; rfl, HF.out, ?_, hb.trans (grown_below hg2 hsz hab)⟩
        rw [hml]
        exact own_base hown2 (fun g hg => by have := (hown2.lt g hg).1; omega)
      · have hpk : p ∈ keysR L := by rw [← hkeys]; exact List.mem_map.2 ⟨_, hpv, rfl⟩
        have hp96 := hkl p hpk
        have hb1 : Below w.heap.size w w1 := hb.trans (grown_below hg1 hsz (fun g hg => by injection hg with hg; omega))
        have hne : (Value.slice A ss.length c).ownBlock ≠ some w.heap.size := fun e => by have := (hown.lt _ e).1; omega
        have hown1 : w1.ownsRow (w.heap.size + 1) 9 1 (.slice A ss.length c) ss.length (ss.map stv) := own_fr hown (Fr.of_grown hg1 (S := fun g => g = w.heap.size) (fun k _ e => by injection e with e; exact e.symm)) (fun g hg e => hne (by rw [hg, e]))
        have hsl2 : (seen ++ [p]).length ≤ L.length := by
          obtain ⟨D, left, _, h4, hcol⟩ := hr1.rng
          have h2 : (seen ++ [p]) ⊆ keysR (mapL L) := fun k hk => by
            have := ((hcol.2 k).1 hk).1
            rw [h4.has] at this
            exact getR_isSome.1 this
          have := nodup_len _ _ hcol.1 h2
          rw [keys_len] at this
          simpa [mapL] using this
        have HC := Lib.hid (hc w1 hb1 p hpk)
        have hss2 : Hid ((seen ++ [p]).filter f = if f p = true then ss ++ [p] else ss) := by
          show _ = _
          rw [List.filter_append, ← hss.out]
          by_cases hf : f p = true
          · rw [if_pos hf, List.filter_cons, if_pos hf]; rfl
          · rw [if_neg hf, List.filter_cons, if_neg hf]; simp
        have hleft := hr.left_eq
        clear hss hown hr hb
        generalize f p = b at HC hss2
        cases b
        · go_wp2_with fail
          refine HC.out.mono ?_
          rintro e w2 ⟨rfl, hb2⟩
          have hr2 := hr1.kept (below_grown hb2) (by simp) (by simp)
          go_wp2_with fail
          go_roundw
          case rel => exact ⟨seen ++ [p], cnt1, ss, A, c, rfl, hr2, hsl2, own_below hown1 hb2, by show _ = _; rw [hss2.out]; simp, hsx, hb1.trans (hb2.mono hb1.size)⟩
          case measure => rw [hr2.left_eq, hleft]; omega
        · go_wp2_with fail
          refine HC.out.mono ?_
          rintro e w2 ⟨rfl, hb2⟩
          have hr2 := hr1.kept (below_grown hb2) (by simp) (by simp)
          have hown2 := own_below hown1 hb2
          have HO := Lib.hid (World.ownsRow.alloc hown2 (.cells #[stv p] 9))
          have hs2 := hb2.size
          have hmb : mb < w.heap.size := by
            rcases hT.out.map with ⟨e, _⟩ | ⟨mb', e, hm⟩
            · cases e
            · injection e with e; rw [e]; exact hm.lt
          go_wp2_with (at_builtin; refine wpList_append_any _ rfl (.tmp 20) (.tmp 22) 84 rfl (w.heap.size + 1) 9 i0 _ 1 16 Tryz.underlying84 hi0 hz0 hz1 hz2 rfl (by omega) (.slice A ss.length c) ss.length (ss.map stv) rfl HO.out _ _ 1 1 [stv p] rfl (Rd.lit (xs := [stv p]) (n := 1) rfl rfl rfl) (by simp [Value.oneCell', stv]) (by simp only [maxLen]; omega) (by omega) (by simp; omega) ?_; intro v3 w3 hown3 hg3 hat3; obtain ⟨A3, c3, rfl, _⟩ := own_form hown3)
          have hr3 : Rng w3 Tryz.prog 9 mb w.heap.size (mapL L) (seen ++ [p]) cnt1 := (hr2.kept (World.grownBy_alloc _ _ none) (by simp) (by simp)).kept hg3 (fun e => by have := (hown2.lt _ e.symm).1; omega) (fun e => by have := (hown2.lt _ e.symm).1; omega)
          have hb3 : Below w.heap.size w w3 := ((hb1.trans (hb2.mono hb1.size)).alloc (by omega) _).trans (grown_below hg3 (by simp; omega) (fun g hg => by have := (hown2.lt _ hg).1; omega))
          go_roundw
          case rel =>
            refine ⟨seen ++ [p], cnt1, ss ++ [p], A3, c3, by simp, hr3, hsl2, ?_, by show _ = _; rw [hss2.out]; simp, fun x hx => ?_, hb3⟩
            · rw [List.length_append, List.map_append]
              exact hown3
            · rcases List.mem_append.1 hx with hx | hx
              · exact hsx x hx
              · rw [List.mem_singleton.1 hx]; exact hp96
          case measure => rw [hr3.left_eq, hleft]; omega


theorem paths_nil (v : Value) (w : World) : Calls Tryz.prog 71 #[.pointer none, v] w fun e w' => e = .returned (.slice none 0 0) ∧ w = w' := by
  go_enter Tryz.func71, Tryz.ntmps71
  go_wp2_with fail
  go_ret
  exact ⟨rfl, rfl⟩
end Go.Proofs.YtjcfphdjgagimaaGreatDoor

/- tree.Tree: Below, Kids, all. -/
namespace Go.Proofs.YtjcfphdjgagimaaGreatDoor
open Go.RowKit Go.Maps

/-- texts told to a caller: a row of his own -/
def TxtOwn (w : World) (base : Nat) (e : Ending) (l : List (List UInt8)) : Prop :=
  ∃ (A : Option Addr) (c : Nat) (l' : List (List UInt8)), e = .returned (.slice A l'.length c) ∧ Hid (l' = l) ∧ w.ownsRow base 9 1 (.slice A l'.length c) l'.length (l'.map stv)
theorem below1_any (p : List UInt8) (xb : Nat) (q : List UInt8) (w : World) (hp : p.length ≤ 9223372036854775807) (hq : q.length ≤ 9223372036854775807) (hx : Blk w xb 9 #[.string ⟨⟨p⟩⟩]) :
    Calls Tryz.prog 99 #[.string ⟨⟨q⟩⟩, .pointer (some ⟨xb, 0, none⟩)] w fun e w' => e = .returned (.bool (underB q p)) ∧ Below w.heap.size w w' := by
  have c0 := hx.cell 0
  simp at c0
  have HU := Lib.hid (under_any ⟨⟨q⟩⟩ ⟨⟨p⟩⟩ hq hp w)
  go_enter Tryz.func99, Tryz.ntmps99
  go_wp2_with fail
  refine HU.out.mono ?_
  rintro e w1 ⟨rfl, hb1⟩
  go_wp2_with fail
  go_ret
  exact ⟨rfl, hb1⟩
set_option maxHeartbeats 400000 in
theorem treeBelow_any (hS : SortsT) (tb : Nat) (mo : Option Nat) (L : List (List UInt8 × LV)) (p : List UInt8) (w : World) (h : TreeAt w tb mo L) (hp : p.length ≤ 140737488355328) :
    Calls Tryz.prog 84 #[.pointer (some ⟨tb, 0, none⟩), .string ⟨⟨p⟩⟩] w fun e w' => TxtOwn w' w.heap.size e ((keysR L).filter fun q => underB q p) ∧ Below w.heap.size w w' := by
  have hb0 : Below w.heap.size w (w.alloc (.cells #[.string ⟨⟨p⟩⟩] 9)) := (by repeat (first | exact Below.refl _ _ | refine Below.alloc ?_ (by simp) _ | refine Below.setCell ?_ (by simp) _ | refine Below.drew ?_))
  have hx := Blk.new w 9 #[.string ⟨⟨p⟩⟩]
  have h0 := h.below hb0
  have hkl : ∀ q ∈ keysR L, q.length ≤ 96 := fun q hq => by
    obtain ⟨x, hx, rfl⟩ := List.mem_map.1 hq
    exact goodB_len (h.small hx).2.1
  have HP := Lib.hid (pathsBelow_any hS tb mo L (fun q => underB q p) w.heap.size _ h0 (fun W hW q hq => below1_any p w.heap.size q W (by omega) (by have := hkl q hq; omega) (hx.below hW)))
  clear h h0 hx
  go_enter Tryz.func84, Tryz.ntmps84
  go_wp2_with fail
  refine HP.out.mono ?_
  rintro e w1 ⟨A, c, l, rfl, hl, ho, hb1⟩
  go_wp2_with fail
  go_ret
  exact ⟨⟨A, c, l, rfl, hl, own_base ho (fun g hg => Nat.le_trans hb0.size (ho.lt g hg).1)⟩, hb0.trans (hb1.mono hb0.size)⟩
theorem all1_any (q : List UInt8) (w : World) : Calls Tryz.prog 72 #[.string ⟨⟨q⟩⟩] w fun e w' => e = .returned (.bool true) ∧ Below w.heap.size w w' := by
  go_enter Tryz.func72, Tryz.ntmps72
  go_wp2_with fail
  go_ret
  exact ⟨rfl, Below.refl _ _⟩
theorem treeall_any (hS : SortsT) (tb : Nat) (mo : Option Nat) (L : List (List UInt8 × LV)) (w : World) (h : TreeAt w tb mo L) :
    Calls Tryz.prog 40 #[.pointer (some ⟨tb, 0, none⟩)] w fun e w' => TxtOwn w' w.heap.size e (keysR L) ∧ Below w.heap.size w w' := by
  have HP := Lib.hid (pathsAll_any hS tb mo L (fun _ => true) w h (fun W _ q _ => all1_any q W))
  clear h
  go_enter Tryz.func40, Tryz.ntmps40
  go_wp2_with fail
  refine HP.out.mono ?_
  rintro e w1 ⟨A, c, l, rfl, hl, ho, hb1⟩
  go_wp2_with fail
  go_ret
  exact ⟨⟨A, c, l, rfl, by show _ = _; rw [hl.out]; exact List.filter_eq_self.2 (fun _ _ => rfl), ho⟩, hb1⟩
theorem treeall_nil (w : World) : Calls Tryz.prog 40 #[.pointer none] w fun e w' => e = .returned (.slice none 0 0) ∧ w = w' := by
  go_enter Tryz.func40, Tryz.ntmps40
  go_wp2_with fail
  refine (paths_nil _ w).mono ?_
  rintro e w1 ⟨rfl, rfl⟩
  go_wp2_with fail
  go_ret
  exact ⟨rfl, rfl⟩
end Go.Proofs.YtjcfphdjgagimaaGreatDoor

/- name.Ups, tenderref03.Ups, Same. -/
namespace Go.Proofs.YtjcfphdjgagimaaGreatDoor
open Go.RowKit

end Go.Proofs.YtjcfphdjgagimaaGreatDoor

/- tenderlaw03: lives. -/
namespace Go.Proofs.YtjcfphdjgagimaaGreatDoor
open Go.RowKit

end Go.Proofs.YtjcfphdjgagimaaGreatDoor

/- NameUps is true for every input: the parent of any path, all paths above it, and whether it is under another one, are the document's. No condition beyond the row's own. -/
namespace Go.Proofs.YtjcfphdjgagimaaGreatDoor
open Go.RowKit

end Go.Proofs.YtjcfphdjgagimaaGreatDoor

/- tree.Tree.may: whether something may be set. -/
namespace Go.Proofs.YtjcfphdjgagimaaGreatDoor
open Go.RowKit Go.Maps

theorem paste_drop_len : ∀ (l : List (List UInt8)), l ≠ [] → (pasteL l.dropLast).length ≤ (pasteL l).length
  | [], h => (h rfl).elim
  | [x], _ => by simp [pasteL]
  | [x, y], _ => by simp [pasteL]
  | x :: y :: z :: l, _ => by
    have ih := paste_drop_len (y :: z :: l) (by simp)
    simp only [List.dropLast_cons_cons, pasteL, List.length_append, List.length_cons] at ih ⊢
    omega
theorem parT_len (p : List UInt8) : (parT p).1.length ≤ 96 := by
  unfold parT
  split
  · rename_i h
    rw [Bool.and_eq_true] at h
    have hg := goodB_len h.1
    have hl := paste_drop_len (cutL p) (cutL_ne p)
    rw [paste_cut] at hl
    show (pasteL (cutL p).dropLast).length ≤ 96
    omega
  · simp
theorem leaf_kind (k : Int) (v : Value) (w : World) : (Instr.field 46 (.agg #[.int .i64 k, v]) 0).run Tryz.prog w = .ok (.int .i64 k) w := by kernel_rfl
set_option maxRecDepth 100000 in
set_option maxHeartbeats 2000000 in
theorem treemay_any (hS : SortsT) (tb : Nat) (mo : Option Nat) (L : List (List UInt8 × LV)) (p : List UInt8) (k : Int) (A : Option Addr) (c : Nat) (l : List UInt8) (w : World) (h : TreeAt w tb mo L) (hp : p.length ≤ 1048576) (hn : l.length ≤ 140737488355328) :
    Calls Tryz.prog 56 #[.pointer (some ⟨tb, 0, none⟩), .string ⟨⟨p⟩⟩, .agg #[.int .i64 k, .slice A l.length c]] w fun e w' => e = .returned (.int .i64 (mayS (plainL L) p (k, l))) ∧ Below w.heap.size w w' := by
  obtain ⟨M, hM⟩ : ∃ M, M = mayS (plainL L) p (k, l) := ⟨_, rfl⟩
  rw [← hM]
  have HM := Lib.hid hM
  clear hM
  have HT := Lib.hid h
  have hb0 : Below w.heap.size w (w.alloc (.cells #[.int .i64 k, .slice A l.length c] 46)) := (by repeat (first | exact Below.refl _ _ | refine Below.alloc ?_ (by simp) _ | refine Below.setCell ?_ (by simp) _ | refine Below.drew ?_))
  have x0 := Blk.new w 46 #[.int .i64 k, .slice A l.length c]
  have HCK := Lib.hid (fun W => leafCheck_any k A l.length c W hn)
  have hsn : (getR (plainL L) p).isNone = (getR L p).isNone := by rw [get_plain]; rcases getR L p with _ | o <;> rfl
  have hpl : (plainL L).length = L.length := by simp [plainL]
  clear h
  go_enter Tryz.func56, Tryz.ntmps56
  go_wp2_with fail
  refine (check_any ⟨⟨p⟩⟩ (by show p.length ≤ _; omega) _).mono ?_
  rintro e w1 ⟨rfl, hb1⟩
  rw [show tl ⟨⟨p⟩⟩ = p from rfl]
  have hw1 := hb0.trans (hb1.mono hb0.size)
  have x1 := x0.below hb1
  clear hb1 x0 hb0
  cases hg : goodB p
  · rw [if_neg (by simp)]
    obtain rfl : M = 23 := by rw [HM.out]; unfold mayS; rw [if_pos hg]
    go_wp2_with fail
    go_ret
    exact ⟨rfl, hw1⟩
  · rw [if_pos rfl]
    have hp96 := goodB_len hg
    have q0 : w1.cell? ⟨w.heap.size, 0, none⟩ = some (.int .i64 k) := x1.cell 0
    have q1 : w1.cell? ⟨w.heap.size, 1, none⟩ = some (.slice A l.length c) := x1.cell 1
    go_wp2_with fail
    refine (HCK.out _).mono ?_
    rintro e w2 ⟨rfl, hb2⟩
    have hw2 := hw1.trans (hb2.mono hw1.size)
    have x2 := x1.below hb2
    clear q0 q1 hb2 x1 hw1 HCK
    by_cases hc : checkN k l.length = 0
    · rw [hc]
      have q0 : w2.cell? ⟨w.heap.size, 0, none⟩ = some (.int .i64 k) := x2.cell 0
      have HM1 : Hid (M = if k ≠ 2 ∧ ((keysR (plainL L)).filter fun q => underB q p) ≠ [] then 22 else if k = 0 then 0 else if (parT p).2 = true ∧ kindL (getR (plainL L) (parT p).1) ≠ 2 then 22 else if (getR (plainL L) p).isNone ∧ 128 ≤ (plainL L).length then 24 else 0) := by
        show _ = _
        rw [HM.out]
        unfold mayS
        rw [if_neg (by rw [hg]; simp), if_neg (by simpa using hc)]
      clear HM
      have hk := checkN_kind hc
      clear hc
      rcases hk with rfl | rfl | rfl
      · have HM2 : Hid (M = if ((keysR (plainL L)).filter fun q => underB q p) ≠ [] then 22 else 0) := by
          show _ = _
          rw [HM1.out]
          simp
        clear HM1
        go_wp2_with fail
        refine (treeBelow_any hS tb mo L p w2 (HT.out.below hw2) (by omega)).mono ?_
        rintro e w3 ⟨⟨A3, c3, l3, rfl, hl3, _⟩, hb3⟩
        have hw3 := hw2.trans (hb3.mono hw2.size)
        have x3 := x2.below hb3
        have hlk : ((keysR (plainL L)).filter fun q => underB q p) = l3 := by rw [keys_plain]; exact hl3.out.symm
        rw [hlk] at HM2
        clear hl3 hlk q0 x2 hb3
        have q0 : w3.cell? ⟨w.heap.size, 0, none⟩ = some (.int .i64 0) := x3.cell 0
        rcases l3 with _ | ⟨y, l3⟩
        · rw [if_neg (by simp)] at HM2
          obtain rfl : M = 0 := HM2.out
          go_wp2_with fail
          go_ret
          exact ⟨rfl, hw3⟩
        · rw [if_pos (by simp)] at HM2
          obtain rfl : M = 22 := HM2.out
          have hl0 : 0 < (y :: l3).length := by simp
          generalize (y :: l3).length = n3 at *
          go_wp2_with fail
          go_ret
          exact ⟨rfl, hw3⟩
      · have HM2 : Hid (M = if ((keysR (plainL L)).filter fun q => underB q p) ≠ [] then 22 else if (parT p).2 = true ∧ kindL (getR (plainL L) (parT p).1) ≠ 2 then 22 else if (getR (plainL L) p).isNone ∧ 128 ≤ (plainL L).length then 24 else 0) := by
          show _ = _
          rw [HM1.out]
          simp
        clear HM1
        go_wp2_with fail
        refine (treeBelow_any hS tb mo L p w2 (HT.out.below hw2) (by omega)).mono ?_
        rintro e w3 ⟨⟨A3, c3, l3, rfl, hl3, _⟩, hb3⟩
        have hw3 := hw2.trans (hb3.mono hw2.size)
        have x3 := x2.below hb3
        have hlk : ((keysR (plainL L)).filter fun q => underB q p) = l3 := by rw [keys_plain]; exact hl3.out.symm
        rw [hlk] at HM2
        clear hl3 hlk q0 x2 hb3
        have q0 : w3.cell? ⟨w.heap.size, 0, none⟩ = some (.int .i64 1) := x3.cell 0
        rcases l3 with _ | ⟨y, l3⟩
        · rw [if_neg (by simp)] at HM2
          go_wp2_with fail
          clear q0 x3
          refine (parent_any ⟨⟨p⟩⟩ (by show p.length ≤ _; omega) w3).mono ?_
          rintro e w4 ⟨⟨⟨t⟩⟩, b, rfl, ht, hb4⟩
          rw [show tl ⟨⟨p⟩⟩ = p from rfl, show tl ⟨⟨t⟩⟩ = t from rfl] at ht
          rw [← ht.out] at HM2
          dsimp only at HM2
          have htl : t.length ≤ 96 := by
            have h1 := congrArg Prod.fst ht.out
            dsimp only at h1
            rw [h1]
            exact parT_len p
          have hw4 := hw3.trans (hb4.mono hw3.size)
          clear ht hb4
          cases b
          · rw [if_neg (by simp)] at HM2
            have hcc := (HT.out.below hw4).c0
            have hlo := (HT.out.below hw4).look_ok p (by simp only [maxLen]; omega)
            rw [hsn, hpl] at HM2
            generalize getR L p = op at *
            rcases op with _ | ⟨ko, Ao, co, lo⟩
            · unfold leafO at hlo
              rw [show (none : Option LV).isSome = false from rfl] at hlo
              have hbA : Below w4.heap.size w4 (w4.alloc (.cells #[.int .i64 0, .slice none 0 0] 46)) := (by repeat (first | exact Below.refl _ _ | refine Below.alloc ?_ (by simp) _ | refine Below.setCell ?_ (by simp) _ | refine Below.drew ?_))
              have hA := HT.out.below (hw4.trans (hbA.mono hw4.size))
              have c5 := hA.c0
              have hct := fun ty => hA.count ty
              have hwA := hw4.trans (hbA.mono hw4.size)
              have Hw := Lib.hid hwA
              clear hA hbA hwA
              by_cases h128 : 128 ≤ L.length
              · obtain rfl : M = 24 := by rw [HM2.out, if_pos ⟨rfl, h128⟩]
                clear HM2
                go_wp2_with fail
                go_ret
                exact ⟨rfl, Hw.out⟩
              · obtain rfl : M = 0 := by rw [HM2.out, if_neg (fun e => h128 e.2)]
                clear HM2
                go_wp2_with fail
                go_ret
                exact ⟨rfl, Hw.out⟩
            · unfold leafO LV.v at hlo
              dsimp only at hlo
              rw [show (some (⟨ko, ⟨Ao, co, lo⟩⟩ : LV)).isSome = true from rfl] at hlo
              have hbA : Below w4.heap.size w4 (w4.alloc (.cells #[.int .i64 ko, .slice Ao lo.length co] 46)) := (by repeat (first | exact Below.refl _ _ | refine Below.alloc ?_ (by simp) _ | refine Below.setCell ?_ (by simp) _ | refine Below.drew ?_))
              have hA := HT.out.below (hw4.trans (hbA.mono hw4.size))
              have c5 := hA.c0
              have hct := fun ty => hA.count ty
              have hwA := hw4.trans (hbA.mono hw4.size)
              have Hw := Lib.hid hwA
              clear hA hbA hwA
              obtain rfl : M = 0 := by rw [HM2.out, if_neg (fun e => by cases e.1)]
              clear HM2
              go_wp2_with fail
              go_ret
              exact ⟨rfl, Hw.out⟩
          · rw [get_plain] at HM2
            go_wp2_with fail
            refine (treeget_any tb mo L t w4 (HT.out.below hw4) (by omega)).mono ?_
            rintro e w5 ⟨rfl, hb5⟩
            have hw5 := hw4.trans (hb5.mono hw4.size)
            clear hb5
            obtain ⟨kk, vv, hv, hkk⟩ : ∃ kk vv, leafO (getR L t) = .agg #[.int .i64 kk, vv] ∧ kindL ((getR L t).map LV.p) = kk := by
              rcases getR L t with _ | ⟨ko, Ao, co, lo⟩
              · exact ⟨0, _, rfl, rfl⟩
              · exact ⟨ko, _, rfl, rfl⟩
            rw [hv]
            rw [hkk] at HM2
            have hfk := fun W => leaf_kind kk vv W
            clear hv hkk
            by_cases hk2 : kk = 2
            · have hk2b : (kk != 2) = false := by simp [hk2]
              rw [if_neg (by simp [hk2])] at HM2
              clear hk2
              have hcc := (HT.out.below hw5).c0
              have hlo := (HT.out.below hw5).look_ok p (by simp only [maxLen]; omega)
              rw [hsn, hpl] at HM2
              generalize getR L p = op at *
              rcases op with _ | ⟨ko, Ao, co, lo⟩
              · unfold leafO at hlo
                rw [show (none : Option LV).isSome = false from rfl] at hlo
                have hbA : Below w5.heap.size w5 (w5.alloc (.cells #[.int .i64 0, .slice none 0 0] 46)) := (by repeat (first | exact Below.refl _ _ | refine Below.alloc ?_ (by simp) _ | refine Below.setCell ?_ (by simp) _ | refine Below.drew ?_))
                have hA := HT.out.below (hw5.trans (hbA.mono hw5.size))
                have c5 := hA.c0
                have hct := fun ty => hA.count ty
                have hwA := hw5.trans (hbA.mono hw5.size)
                have Hw := Lib.hid hwA
                clear hA hbA hwA
                by_cases h128 : 128 ≤ L.length
                · obtain rfl : M = 24 := by rw [HM2.out, if_pos ⟨rfl, h128⟩]
                  clear HM2
                  go_wp2_with fail
                  go_ret
                  exact ⟨rfl, Hw.out⟩
                · obtain rfl : M = 0 := by rw [HM2.out, if_neg (fun e => h128 e.2)]
                  clear HM2
                  go_wp2_with fail
                  go_ret
                  exact ⟨rfl, Hw.out⟩
              · unfold leafO LV.v at hlo
                dsimp only at hlo
                rw [show (some (⟨ko, ⟨Ao, co, lo⟩⟩ : LV)).isSome = true from rfl] at hlo
                have hbA : Below w5.heap.size w5 (w5.alloc (.cells #[.int .i64 ko, .slice Ao lo.length co] 46)) := (by repeat (first | exact Below.refl _ _ | refine Below.alloc ?_ (by simp) _ | refine Below.setCell ?_ (by simp) _ | refine Below.drew ?_))
                have hA := HT.out.below (hw5.trans (hbA.mono hw5.size))
                have c5 := hA.c0
                have hct := fun ty => hA.count ty
                have hwA := hw5.trans (hbA.mono hw5.size)
                have Hw := Lib.hid hwA
                clear hA hbA hwA
                obtain rfl : M = 0 := by rw [HM2.out, if_neg (fun e => by cases e.1)]
                clear HM2
                go_wp2_with fail
                go_ret
                exact ⟨rfl, Hw.out⟩
            · have hk2b : (kk != 2) = true := by simpa using hk2
              obtain rfl : M = 22 := by rw [HM2.out]; simp [hk2]
              clear hk2 HM2
              go_wp2_with fail
              go_ret
              exact ⟨rfl, hw5⟩
        · rw [if_pos (by simp)] at HM2
          obtain rfl : M = 22 := HM2.out
          have hl0 : 0 < (y :: l3).length := by simp
          generalize (y :: l3).length = n3 at *
          go_wp2_with fail
          go_ret
          exact ⟨rfl, hw3⟩
      · have HM2 : Hid (M = if (parT p).2 = true ∧ kindL (getR (plainL L) (parT p).1) ≠ 2 then 22 else if (getR (plainL L) p).isNone ∧ 128 ≤ (plainL L).length then 24 else 0) := by
          show _ = _
          rw [HM1.out]
          simp
        clear HM1
        go_wp2_with fail
        clear q0 x2
        refine (parent_any ⟨⟨p⟩⟩ (by show p.length ≤ _; omega) w2).mono ?_
        rintro e w4 ⟨⟨⟨t⟩⟩, b, rfl, ht, hb4⟩
        rw [show tl ⟨⟨p⟩⟩ = p from rfl, show tl ⟨⟨t⟩⟩ = t from rfl] at ht
        rw [← ht.out] at HM2
        dsimp only at HM2
        have htl : t.length ≤ 96 := by
          have h1 := congrArg Prod.fst ht.out
          dsimp only at h1
          rw [h1]
          exact parT_len p
        have hw4 := hw2.trans (hb4.mono hw2.size)
        clear ht hb4
        cases b
        · rw [if_neg (by simp)] at HM2
          have hcc := (HT.out.below hw4).c0
          have hlo := (HT.out.below hw4).look_ok p (by simp only [maxLen]; omega)
          rw [hsn, hpl] at HM2
          generalize getR L p = op at *
          rcases op with _ | ⟨ko, Ao, co, lo⟩
          · unfold leafO at hlo
            rw [show (none : Option LV).isSome = false from rfl] at hlo
            have hbA : Below w4.heap.size w4 (w4.alloc (.cells #[.int .i64 0, .slice none 0 0] 46)) := (by repeat (first | exact Below.refl _ _ | refine Below.alloc ?_ (by simp) _ | refine Below.setCell ?_ (by simp) _ | refine Below.drew ?_))
            have hA := HT.out.below (hw4.trans (hbA.mono hw4.size))
            have c5 := hA.c0
            have hct := fun ty => hA.count ty
            have hwA := hw4.trans (hbA.mono hw4.size)
            have Hw := Lib.hid hwA
            clear hA hbA hwA
            by_cases h128 : 128 ≤ L.length
            · obtain rfl : M = 24 := by rw [HM2.out, if_pos ⟨rfl, h128⟩]
              clear HM2
              go_wp2_with fail
              go_ret
              exact ⟨rfl, Hw.out⟩
            · obtain rfl : M = 0 := by rw [HM2.out, if_neg (fun e => h128 e.2)]
              clear HM2
              go_wp2_with fail
              go_ret
              exact ⟨rfl, Hw.out⟩
          · unfold leafO LV.v at hlo
            dsimp only at hlo
            rw [show (some (⟨ko, ⟨Ao, co, lo⟩⟩ : LV)).isSome = true from rfl] at hlo
            have hbA : Below w4.heap.size w4 (w4.alloc (.cells #[.int .i64 ko, .slice Ao lo.length co] 46)) := (by repeat (first | exact Below.refl _ _ | refine Below.alloc ?_ (by simp) _ | refine Below.setCell ?_ (by simp) _ | refine Below.drew ?_))
            have hA := HT.out.below (hw4.trans (hbA.mono hw4.size))
            have c5 := hA.c0
            have hct := fun ty => hA.count ty
            have hwA := hw4.trans (hbA.mono hw4.size)
            have Hw := Lib.hid hwA
            clear hA hbA hwA
            obtain rfl : M = 0 := by rw [HM2.out, if_neg (fun e => by cases e.1)]
            clear HM2
            go_wp2_with fail
            go_ret
            exact ⟨rfl, Hw.out⟩
        · rw [get_plain] at HM2
          go_wp2_with fail
          refine (treeget_any tb mo L t w4 (HT.out.below hw4) (by omega)).mono ?_
          rintro e w5 ⟨rfl, hb5⟩
          have hw5 := hw4.trans (hb5.mono hw4.size)
          clear hb5
          obtain ⟨kk, vv, hv, hkk⟩ : ∃ kk vv, leafO (getR L t) = .agg #[.int .i64 kk, vv] ∧ kindL ((getR L t).map LV.p) = kk := by
            rcases getR L t with _ | ⟨ko, Ao, co, lo⟩
            · exact ⟨0, _, rfl, rfl⟩
            · exact ⟨ko, _, rfl, rfl⟩
          rw [hv]
          rw [hkk] at HM2
          have hfk := fun W => leaf_kind kk vv W
          clear hv hkk
          by_cases hk2 : kk = 2
          · have hk2b : (kk != 2) = false := by simp [hk2]
            rw [if_neg (by simp [hk2])] at HM2
            clear hk2
            have hcc := (HT.out.below hw5).c0
            have hlo := (HT.out.below hw5).look_ok p (by simp only [maxLen]; omega)
            rw [hsn, hpl] at HM2
            generalize getR L p = op at *
            rcases op with _ | ⟨ko, Ao, co, lo⟩
            · unfold leafO at hlo
              rw [show (none : Option LV).isSome = false from rfl] at hlo
              have hbA : Below w5.heap.size w5 (w5.alloc (.cells #[.int .i64 0, .slice none 0 0] 46)) := (by repeat (first | exact Below.refl _ _ | refine Below.alloc ?_ (by simp) _ | refine Below.setCell ?_ (by simp) _ | refine Below.drew ?_))
              have hA := HT.out.below (hw5.trans (hbA.mono hw5.size))
              have c5 := hA.c0
              have hct := fun ty => hA.count ty
              have hwA := hw5.trans (hbA.mono hw5.size)
              have Hw := Lib.hid hwA
              clear hA hbA hwA
              by_cases h128 : 128 ≤ L.length
              · obtain rfl : M = 24 := by rw [HM2.out, if_pos ⟨rfl, h128⟩]
                clear HM2
                go_wp2_with fail
                go_ret
                exact ⟨rfl, Hw.out⟩
              · obtain rfl : M = 0 := by rw [HM2.out, if_neg (fun e => h128 e.2)]
                clear HM2
                go_wp2_with fail
                go_ret
                exact ⟨rfl, Hw.out⟩
            · unfold leafO LV.v at hlo
              dsimp only at hlo
              rw [show (some (⟨ko, ⟨Ao, co, lo⟩⟩ : LV)).isSome = true from rfl] at hlo
              have hbA : Below w5.heap.size w5 (w5.alloc (.cells #[.int .i64 ko, .slice Ao lo.length co] 46)) := (by repeat (first | exact Below.refl _ _ | refine Below.alloc ?_ (by simp) _ | refine Below.setCell ?_ (by simp) _ | refine Below.drew ?_))
              have hA := HT.out.below (hw5.trans (hbA.mono hw5.size))
              have c5 := hA.c0
              have hct := fun ty => hA.count ty
              have hwA := hw5.trans (hbA.mono hw5.size)
              have Hw := Lib.hid hwA
              clear hA hbA hwA
              obtain rfl : M = 0 := by rw [HM2.out, if_neg (fun e => by cases e.1)]
              clear HM2
              go_wp2_with fail
              go_ret
              exact ⟨rfl, Hw.out⟩
          · have hk2b : (kk != 2) = true := by simpa using hk2
            obtain rfl : M = 22 := by rw [HM2.out]; simp [hk2]
            clear hk2 HM2
            go_wp2_with fail
            go_ret
            exact ⟨rfl, hw5⟩
    · have hc2 : (checkN k l.length != 0) = true := by simpa using hc
      have hMc : M = checkN k l.length := by rw [HM.out]; unfold mayS; rw [if_neg (by rw [hg]; simp), if_pos hc]
      clear HM hc
      generalize checkN k l.length = C at *
      subst hMc
      go_wp2_with fail
      go_ret
      exact ⟨rfl, hw2⟩

end Go.Proofs.YtjcfphdjgagimaaGreatDoor
