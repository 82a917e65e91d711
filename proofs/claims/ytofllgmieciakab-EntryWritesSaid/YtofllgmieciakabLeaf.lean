/- leaf and tenderref07: Check, Same, Size, Clone, OfFile, OfDir, Name. -/
import Derived.Test.YtofllgmieciakabEyeText
import Derived.Test.YtofllgmieciakabPenNew
import Derived.Test.YtofllgmieciakabTwoEye
import Derived.Test.YtofllgmieciakabOpen2
import Derived.Handy
import Derived.Deep.RegionHeld3
namespace Go.Proofs.Ytofllgmieciakab
open Go.RowKit

/-- what an answer to 'is a leaf right?' is -/
def checkN (k : Int) (n : Nat) : Int := if k = 1 then (if n ≤ 4096 then 0 else 13) else if k = 0 ∨ k = 2 then (if n = 0 then 0 else 2) else 2
/-- a leaf as a value -/
abbrev leafV (k : Int) (x : BV) : Value := .agg #[.int .i64 k, .slice x.A x.l.length x.c]


set_option maxHeartbeats 400000 in
theorem leafCheck_any (k : Int) (A : Option Addr) (n c : Nat) (w : World) (hn : n ≤ 140737488355328) :
    Calls Try.prog 11 #[.agg #[.int .i64 k, .slice A n c]] w fun e w' => e = .returned (.int .i64 (checkN k n)) ∧ Below w.heap.size w w' := by
  have h1 : k = 1 → n ≤ 4096 → Hid (checkN k n = 0) := fun h1 h2 => Lib.hid (by unfold checkN; rw [if_pos h1, if_pos h2])
  have h2 : k = 1 → ¬ n ≤ 4096 → Hid (checkN k n = 13) := fun h1 h2 => Lib.hid (by unfold checkN; rw [if_pos h1, if_neg h2])
  have h3 : k ≠ 1 → (k = 0 ∨ k = 2) → n = 0 → Hid (checkN k n = 0) := fun h1 h2 h3 => Lib.hid (by unfold checkN; rw [if_neg h1, if_pos h2, if_pos h3])
  have h4 : k ≠ 1 → (k = 0 ∨ k = 2) → n ≠ 0 → Hid (checkN k n = 2) := fun h1 h2 h3 => Lib.hid (by unfold checkN; rw [if_neg h1, if_pos h2, if_neg h3])
  have h5 : k ≠ 1 → ¬ (k = 0 ∨ k = 2) → Hid (checkN k n = 2) := fun h1 h2 => Lib.hid (by unfold checkN; rw [if_neg h1, if_neg h2])
  generalize checkN k n = r at *
  by_cases k1 : k = 1
  · by_cases hs : n ≤ 4096
    · have hr := h1 k1 hs
      clear h1 h2 h3 h4 h5
      subst k1
      go_enter Try.func11, Try.ntmps11
      go_wp2_with fail
      go_ret
      exact ⟨by rw [hr.out]; rfl, (by repeat (first | exact Below.refl _ _ | refine Below.alloc ?_ (by simp) _ | refine Below.setCell ?_ (by simp) _ | refine Below.drew ?_))⟩
    · have hr := h2 k1 hs
      clear h1 h2 h3 h4 h5
      subst k1
      go_enter Try.func11, Try.ntmps11
      go_wp2_with fail
      go_ret
      exact ⟨by rw [hr.out]; rfl, (by repeat (first | exact Below.refl _ _ | refine Below.alloc ?_ (by simp) _ | refine Below.setCell ?_ (by simp) _ | refine Below.drew ?_))⟩
  · have k1b : (k == 1) = false := by simpa using k1
    by_cases k0 : k = 0
    · by_cases hs : n = 0
      · have hr := h3 k1 (.inl k0) hs
        clear h1 h2 h3 h4 h5
        subst k0
        subst hs
        go_enter Try.func11, Try.ntmps11
        go_wp2_with fail
        go_ret
        exact ⟨by rw [hr.out]; rfl, (by repeat (first | exact Below.refl _ _ | refine Below.alloc ?_ (by simp) _ | refine Below.setCell ?_ (by simp) _ | refine Below.drew ?_))⟩
      · have hr := h4 k1 (.inl k0) hs
        clear h1 h2 h3 h4 h5
        subst k0
        go_enter Try.func11, Try.ntmps11
        go_wp2_with fail
        go_ret
        exact ⟨by rw [hr.out]; rfl, (by repeat (first | exact Below.refl _ _ | refine Below.alloc ?_ (by simp) _ | refine Below.setCell ?_ (by simp) _ | refine Below.drew ?_))⟩
    · have k0b : (k == 0) = false := by simpa using k0
      by_cases k2 : k = 2
      · by_cases hs : n = 0
        · have hr := h3 k1 (.inr k2) hs
          clear h1 h2 h3 h4 h5
          subst k2
          subst hs
          go_enter Try.func11, Try.ntmps11
          go_wp2_with fail
          go_ret
          exact ⟨by rw [hr.out]; rfl, (by repeat (first | exact Below.refl _ _ | refine Below.alloc ?_ (by simp) _ | refine Below.setCell ?_ (by simp) _ | refine Below.drew ?_))⟩
        · have hr := h4 k1 (.inr k2) hs
          clear h1 h2 h3 h4 h5
          subst k2
          go_enter Try.func11, Try.ntmps11
          go_wp2_with fail
          go_ret
          exact ⟨by rw [hr.out]; rfl, (by repeat (first | exact Below.refl _ _ | refine Below.alloc ?_ (by simp) _ | refine Below.setCell ?_ (by simp) _ | refine Below.drew ?_))⟩
      · have k2b : (k == 2) = false := by simpa using k2
        have hr := h5 k1 (fun h => h.elim k0 k2)
        clear h1 h2 h3 h4 h5
        by_cases g0 : k < 0
        · go_enter Try.func11, Try.ntmps11
          go_wp2_with fail
          go_ret
          exact ⟨by rw [hr.out]; rfl, (by repeat (first | exact Below.refl _ _ | refine Below.alloc ?_ (by simp) _ | refine Below.setCell ?_ (by simp) _ | refine Below.drew ?_))⟩
        · have g2 : 2 < k := by omega
          go_enter Try.func11, Try.ntmps11
          go_wp2_with fail
          go_ret
          exact ⟨by rw [hr.out]; rfl, (by repeat (first | exact Below.refl _ _ | refine Below.alloc ?_ (by simp) _ | refine Below.setCell ?_ (by simp) _ | refine Below.drew ?_))⟩

set_option maxHeartbeats 400000 in
theorem leafCheckR_any (k : Int) (A : Option Addr) (n c : Nat) (w : World) (hn : n ≤ 140737488355328) :
    Calls Try.prog 12 #[.agg #[.int .i64 k, .slice A n c]] w fun e w' => e = .returned (.int .i64 (checkN k n)) ∧ Below w.heap.size w w' := by
  have h1 : k = 1 → n ≤ 4096 → Hid (checkN k n = 0) := fun h1 h2 => Lib.hid (by unfold checkN; rw [if_pos h1, if_pos h2])
  have h2 : k = 1 → ¬ n ≤ 4096 → Hid (checkN k n = 13) := fun h1 h2 => Lib.hid (by unfold checkN; rw [if_pos h1, if_neg h2])
  have h3 : k ≠ 1 → (k = 0 ∨ k = 2) → n = 0 → Hid (checkN k n = 0) := fun h1 h2 h3 => Lib.hid (by unfold checkN; rw [if_neg h1, if_pos h2, if_pos h3])
  have h4 : k ≠ 1 → (k = 0 ∨ k = 2) → n ≠ 0 → Hid (checkN k n = 2) := fun h1 h2 h3 => Lib.hid (by unfold checkN; rw [if_neg h1, if_pos h2, if_neg h3])
  have h5 : k ≠ 1 → ¬ (k = 0 ∨ k = 2) → Hid (checkN k n = 2) := fun h1 h2 => Lib.hid (by unfold checkN; rw [if_neg h1, if_neg h2])
  generalize checkN k n = r at *
  by_cases k1 : k = 1
  · by_cases hs : n ≤ 4096
    · have hr := h1 k1 hs
      clear h1 h2 h3 h4 h5
      subst k1
      go_enter Try.func12, Try.ntmps12
      go_wp2_with fail
      go_ret
      exact ⟨by rw [hr.out]; rfl, (by repeat (first | exact Below.refl _ _ | refine Below.alloc ?_ (by simp) _ | refine Below.setCell ?_ (by simp) _ | refine Below.drew ?_))⟩
    · have hr := h2 k1 hs
      clear h1 h2 h3 h4 h5
      subst k1
      go_enter Try.func12, Try.ntmps12
      go_wp2_with fail
      go_ret
      exact ⟨by rw [hr.out]; rfl, (by repeat (first | exact Below.refl _ _ | refine Below.alloc ?_ (by simp) _ | refine Below.setCell ?_ (by simp) _ | refine Below.drew ?_))⟩
  · have k1b : (k == 1) = false := by simpa using k1
    by_cases k0 : k = 0
    · by_cases hs : n = 0
      · have hr := h3 k1 (.inl k0) hs
        clear h1 h2 h3 h4 h5
        subst k0
        subst hs
        go_enter Try.func12, Try.ntmps12
        go_wp2_with fail
        go_ret
        exact ⟨by rw [hr.out]; rfl, (by repeat (first | exact Below.refl _ _ | refine Below.alloc ?_ (by simp) _ | refine Below.setCell ?_ (by simp) _ | refine Below.drew ?_))⟩
      · have hr := h4 k1 (.inl k0) hs
        clear h1 h2 h3 h4 h5
        subst k0
        go_enter Try.func12, Try.ntmps12
        go_wp2_with fail
        go_ret
        exact ⟨by rw [hr.out]; rfl, (by repeat (first | exact Below.refl _ _ | refine Below.alloc ?_ (by simp) _ | refine Below.setCell ?_ (by simp) _ | refine Below.drew ?_))⟩
    · have k0b : (k == 0) = false := by simpa using k0
      by_cases k2 : k = 2
      · by_cases hs : n = 0
        · have hr := h3 k1 (.inr k2) hs
          clear h1 h2 h3 h4 h5
          subst k2
          subst hs
          go_enter Try.func12, Try.ntmps12
          go_wp2_with fail
          go_ret
          exact ⟨by rw [hr.out]; rfl, (by repeat (first | exact Below.refl _ _ | refine Below.alloc ?_ (by simp) _ | refine Below.setCell ?_ (by simp) _ | refine Below.drew ?_))⟩
        · have hr := h4 k1 (.inr k2) hs
          clear h1 h2 h3 h4 h5
          subst k2
          go_enter Try.func12, Try.ntmps12
          go_wp2_with fail
          go_ret
          exact ⟨by rw [hr.out]; rfl, (by repeat (first | exact Below.refl _ _ | refine Below.alloc ?_ (by simp) _ | refine Below.setCell ?_ (by simp) _ | refine Below.drew ?_))⟩
      · have k2b : (k == 2) = false := by simpa using k2
        have hr := h5 k1 (fun h => h.elim k0 k2)
        clear h1 h2 h3 h4 h5
        by_cases g0 : k < 0
        · go_enter Try.func12, Try.ntmps12
          go_wp2_with fail
          go_ret
          exact ⟨by rw [hr.out]; rfl, (by repeat (first | exact Below.refl _ _ | refine Below.alloc ?_ (by simp) _ | refine Below.setCell ?_ (by simp) _ | refine Below.drew ?_))⟩
        · have g2 : 2 < k := by omega
          go_enter Try.func12, Try.ntmps12
          go_wp2_with fail
          go_ret
          exact ⟨by rw [hr.out]; rfl, (by repeat (first | exact Below.refl _ _ | refine Below.alloc ?_ (by simp) _ | refine Below.setCell ?_ (by simp) _ | refine Below.drew ?_))⟩

theorem strs_beq (l m : List UInt8) : ((⟨l.toArray⟩ : ByteArray).toList == (⟨m.toArray⟩ : ByteArray).toList) = (l == m) := by
  rw [ByteArray.toList_eq, ByteArray.toList_eq]
theorem equal_any (A B : Option Addr) (c d : Nat) (l m : List UInt8) (Z Z' : Nat → Prop) (w : World) (hl : By w Z A l) (hm : By w Z' B m) :
    Calls Try.prog 43 #[.slice A l.length c, .slice B m.length d] w fun e w' => e = .returned (.bool (l == m)) ∧ w = w' := by
  refine (Try.bytes_Equal_strs _ _ _ _ w (conv_by hl c) (conv_by hm d)).mono ?_
  rintro e w' ⟨rfl, hw⟩
  exact ⟨ret_b (by exact strs_beq l m), hw.symm⟩

set_option maxHeartbeats 400000 in
theorem leafSame_any (k j : Int) (A B : Option Addr) (c d : Nat) (l m : List UInt8) (Z Z' : Nat → Prop) (w : World) (hl : By w Z A l) (hm : By w Z' B m) :
    Calls Try.prog 13 #[.agg #[.int .i64 k, .slice A l.length c], .agg #[.int .i64 j, .slice B m.length d]] w fun e w' => e = .returned (.bool (k == j && l == m)) ∧ Below w.heap.size w w' := by
  by_cases hk : k = j
  · have e1 := Lib.hid (show (k == j && l == m) = (l == m) by rw [show (k == j) = true by simpa using hk]; rfl)
    subst hk
    go_enter Try.func13, Try.ntmps13
    go_wp2_with fail
    refine (equal_any A B c d l m Z Z' _ ((hl.alloc _).alloc _) ((hm.alloc _).alloc _)).mono ?_
    rintro e w1 ⟨rfl, rfl⟩
    go_wp2_with fail
    go_ret
    exact ⟨ret_b e1.out.symm, (by repeat (first | exact Below.refl _ _ | refine Below.alloc ?_ (by simp) _ | refine Below.setCell ?_ (by simp) _ | refine Below.drew ?_))⟩
  · have hb : (k == j) = false := by simpa using hk
    have e1 := Lib.hid (show (k == j && l == m) = false by rw [hb]; rfl)
    go_enter Try.func13, Try.ntmps13
    go_wp2_with fail
    go_ret
    exact ⟨ret_b e1.out.symm, (by repeat (first | exact Below.refl _ _ | refine Below.alloc ?_ (by simp) _ | refine Below.setCell ?_ (by simp) _ | refine Below.drew ?_))⟩

set_option maxHeartbeats 400000 in
theorem leafSameR_any (k j : Int) (A B : Option Addr) (c d : Nat) (l m : List UInt8) (Z Z' : Nat → Prop) (w : World) (hl : By w Z A l) (hm : By w Z' B m) :
    Calls Try.prog 14 #[.agg #[.int .i64 k, .slice A l.length c], .agg #[.int .i64 j, .slice B m.length d]] w fun e w' => e = .returned (.bool (k == j && l == m)) ∧ Below w.heap.size w w' := by
  have k1 := conv_by ((hl.alloc (.cells #[.int .i64 k, .slice A l.length c] 24)).alloc (.cells #[.int .i64 j, .slice B m.length d] 24)) c
  have k2 := conv_by ((hm.alloc (.cells #[.int .i64 k, .slice A l.length c] 24)).alloc (.cells #[.int .i64 j, .slice B m.length d] 24)) d
  by_cases hk : k = j
  · have e1 := Lib.hid (show (k == j && l == m) = (l == m) by rw [show (k == j) = true by simpa using hk]; rfl)
    subst hk
    go_enter Try.func14, Try.ntmps14
    go_wp2_with fail
    go_ret
    exact ⟨ret_b e1.out.symm, (by repeat (first | exact Below.refl _ _ | refine Below.alloc ?_ (by simp) _ | refine Below.setCell ?_ (by simp) _ | refine Below.drew ?_))⟩
  · have hb : (k == j) = false := by simpa using hk
    have e1 := Lib.hid (show (k == j && l == m) = false by rw [hb]; rfl)
    go_enter Try.func14, Try.ntmps14
    go_wp2_with fail
    go_ret
    exact ⟨ret_b e1.out.symm, (by repeat (first | exact Below.refl _ _ | refine Below.alloc ?_ (by simp) _ | refine Below.setCell ?_ (by simp) _ | refine Below.drew ?_))⟩

theorem leafSize_any (k : Int) (A : Option Addr) (n c : Nat) (w : World) :
    Calls Try.prog 15 #[.agg #[.int .i64 k, .slice A n c]] w fun e w' => e = .returned (.int .i64 n) ∧ Below w.heap.size w w' := by
  go_enter Try.func15, Try.ntmps15
  go_wp2_with fail
  go_ret
  exact ⟨rfl, (by repeat (first | exact Below.refl _ _ | refine Below.alloc ?_ (by simp) _ | refine Below.setCell ?_ (by simp) _ | refine Below.drew ?_))⟩
theorem leafDir_any (w : World) : Calls Try.prog 18 #[] w fun e w' => e = .returned (.agg #[.int .i64 2, .slice none 0 0]) ∧ Below w.heap.size w w' := by
  go_enter Try.func18, Try.ntmps18
  go_wp2_with fail
  go_returns
  exact ⟨rfl, (by repeat (first | exact Below.refl _ _ | refine Below.alloc ?_ (by simp) _ | refine Below.setCell ?_ (by simp) _ | refine Below.drew ?_))⟩
/-- a result of two cells that is stored -/
theorem Blk.two {w : World} {b : Nat} {t : TypeId} {x y x' y' : Value} (h : Blk w b t #[x, y]) :
    Blk ((w.setCell ⟨b, 0, none⟩ x').setCell ⟨b, 1, none⟩ y') b t #[x', y'] ∧ Fr (fun k => k = b) w ((w.setCell ⟨b, 0, none⟩ x').setCell ⟨b, 1, none⟩ y') := by
  refine ⟨?_, ((Fr.refl (fun k => k = b) w).setAt b 0 rfl _).setAt b 1 rfl _⟩
  have := (h.set_ 0 x').set_ 1 y'
  simpa using this
/-- an owned row behind a store of a result -/
theorem OwB.past {w w' : World} {base b : Nat} {t : TypeId} {cs : Array Value} {v : Value} {l : List UInt8} (h : OwB w base v l) (hb : Blk w b t cs) (ht : 5 ≠ t) (k : Fr (fun k => k = b) w w') : OwB w' base v l :=
  h.fr k (fun g hg e => hb.own_ne h ht (by rw [hg, e]))

set_option maxHeartbeats 400000 in
theorem leafClone_any (k : Int) (A : Option Addr) (c : Nat) (l : List UInt8) (Z : Nat → Prop) (w : World) (h : By w Z A l) (hlen : l.length ≤ 140737488355328) :
    Calls Try.prog 16 #[.agg #[.int .i64 k, .slice A l.length c]] w fun e w' => ∃ (A' : Option Addr) (c' : Nat) (l' : List UInt8), e = .returned (.agg #[.int .i64 k, .slice A' l'.length c']) ∧ Hid (l' = l) ∧ OwB w' w.heap.size (.slice A' l'.length c') l' ∧ Below w.heap.size w w' := by
  have b0 := ((Blk.new w 24 #[.int .i64 k, .slice A l.length c]).alloc (.cells #[.int .i64 0, .slice none 0 0] 24))
  have b1 := Blk.new (w.alloc (.cells #[.int .i64 k, .slice A l.length c] 24)) 24 #[.int .i64 0, .slice none 0 0]
  have hz : (w.alloc (.cells #[.int .i64 k, .slice A l.length c] 24)).heap.size = w.heap.size + 1 := by simp
  rw [hz] at b1
  have hy := (h.alloc (.cells #[.int .i64 k, .slice A l.length c] 24)).alloc (.cells #[.int .i64 0, .slice none 0 0] 24)
  have hw : Below w.heap.size w ((w.alloc (.cells #[.int .i64 k, .slice A l.length c] 24)).alloc (.cells #[.int .i64 0, .slice none 0 0] 24)) := (by repeat (first | exact Below.refl _ _ | refine Below.alloc ?_ (by simp) _ | refine Below.setCell ?_ (by simp) _ | refine Below.drew ?_))
  go_enter Try.func16, Try.ntmps16
  go_wp2_with fail
  generalize (w.alloc (.cells #[.int .i64 k, .slice A l.length c] 24)).alloc (.cells #[.int .i64 0, .slice none 0 0] 24) = W at *
  have c0 : W.cell? ⟨w.heap.size, 0, none⟩ = some (.int .i64 k) := b0.cell 0
  have c1 : W.cell? ⟨w.heap.size, 1, none⟩ = some (.slice A l.length c) := b0.cell 1
  go_region_held3 (fun w' => w'.cell? ⟨w.heap.size, 0, none⟩ = some (.int .i64 k) ∧ w'.cell? ⟨w.heap.size, 1, none⟩ = some (.slice A l.length c))
    (first | assumption | exact ⟨c0, c1⟩ | exact ⟨e0, e1⟩ | exact ⟨((hb0.far (by simp) _).far (by simp) _).cell 0, ((hb0.far (by simp) _).far (by simp) _).cell 1⟩)
    (first
    | (go_at_call 44; refine (clone_any A c l Z _ hy.drew hlen).mono ?_; rintro e w1 ⟨A', c', l', rfl, h1, h2, h3⟩; have hb1 : Blk w1 (w.heap.size + 1) 24 #[.int .i64 0, .slice none 0 0] := b1.drew.below h3; have g0 : w1.cell? ⟨w.heap.size + 1, 0, none⟩ = some (.int .i64 0) := hb1.cell 0; have g1 : w1.cell? ⟨w.heap.size + 1, 1, none⟩ = some (.slice none 0 0) := hb1.cell 1; have f0 := hb1.frozen 0; have f1 := hb1.frozen 1; have hb0 : Blk w1 w.heap.size 24 #[.int .i64 k, .slice A l.length c] := b0.drew.below h3; have e0 : w1.cell? ⟨w.heap.size, 0, none⟩ = some (.int .i64 k) := hb0.cell 0; have e1 : w1.cell? ⟨w.heap.size, 1, none⟩ = some (.slice A l.length c) := hb0.cell 1))
  obtain ⟨hb2, hf2⟩ := Blk.two (x' := .int .i64 k) (y' := .slice A' l'.length c') hb1
  have hs1 := hw.size
  have hs3 : W.heap.size ≤ w1.heap.size := h3.size
  have hlow : Below w.heap.size w w1 := hw.drew.trans (h3.mono hs1)
  have ho := h2.past hb1 (by decide) hf2
  clear b0 b1 c0 c1 g0 g1 f0 f1 e0 e1 hb0 hb1
  generalize (w1.setCell ⟨w.heap.size + 1, 0, none⟩ (.int .i64 k)).setCell ⟨w.heap.size + 1, 1, none⟩ (.slice A' l'.length c') = V at *
  have d0 : V.cell? ⟨w.heap.size + 1, 0, none⟩ = some (.int .i64 k) := hb2.cell 0
  have d1 : V.cell? ⟨w.heap.size + 1, 1, none⟩ = some (.slice A' l'.length c') := hb2.cell 1
  go_wp2_with fail
  refine bodyPost_ret (v := .agg #[.int .i64 k, .slice A' l'.length c']) (by simp [results, Try.results16, go_sem, d0, d1]) rfl ?_
  exact ⟨A', c', l', rfl, h1, own_base ho (fun g hg => Nat.le_trans hs1 (h2.lt _ hg).1), hlow.trans (hf2.below (by omega) (by intro k hk e; omega))⟩
set_option maxHeartbeats 400000 in
theorem leafOf_any (A : Option Addr) (c : Nat) (l : List UInt8) (Z : Nat → Prop) (w : World) (h : By w Z A l) (hlen : l.length ≤ 140737488355328) :
    Calls Try.prog 17 #[.slice A l.length c] w fun e w' => ∃ (A' : Option Addr) (c' : Nat) (l' : List UInt8), e = .returned (.agg #[.int .i64 1, .slice A' l'.length c']) ∧ Hid (l' = l) ∧ OwB w' w.heap.size (.slice A' l'.length c') l' ∧ Below w.heap.size w w' := by
  go_enter Try.func17, Try.ntmps17
  go_wp2_with fail
  refine (clone_any A c l Z _ (h.alloc _) hlen).mono ?_
  rintro e w1 ⟨A', c', l', rfl, h1, h2, h3⟩
  have hb := (Blk.new w 24 #[.int .i64 0, .slice none 0 0]).below h3
  have c0 : w1.cell? ⟨w.heap.size, 0, none⟩ = some (.int .i64 0) := hb.cell 0
  have c1 : w1.cell? ⟨w.heap.size, 1, none⟩ = some (.slice none 0 0) := hb.cell 1
  have f0 := hb.frozen 0
  have f1 := hb.frozen 1
  go_wp2_with fail
  obtain ⟨hb2, hf2⟩ := Blk.two (x' := .int .i64 1) (y' := .slice A' l'.length c') hb
  generalize (w1.setCell ⟨w.heap.size, 0, none⟩ (.int .i64 1)).setCell ⟨w.heap.size, 1, none⟩ (.slice A' l'.length c') = W at *
  have d0 : W.cell? ⟨w.heap.size, 0, none⟩ = some (.int .i64 1) := hb2.cell 0
  have d1 : W.cell? ⟨w.heap.size, 1, none⟩ = some (.slice A' l'.length c') := hb2.cell 1
  refine bodyPost_ret (v := .agg #[.int .i64 1, .slice A' l'.length c']) (by simp [results, Try.results17, go_sem, d0, d1]) rfl ?_
  refine ⟨A', c', l', rfl, h1, own_base (h2.past hb (by decide) hf2) (fun g hg => Nat.le_trans (by simp) (h2.lt _ hg).1), ?_⟩
  exact (((Below.refl _ _).alloc (Nat.le_refl _) _).trans (h3.mono (by simp))).trans (hf2.below (by have := h3.size; simp at this; omega) (by intro k hk e; omega))
/-- a kind's name -/
def kindN (k : Int) : ByteArray := if k = 0 then ⟨#[110, 111, 110, 101]⟩ else if k = 1 then ⟨#[102, 105, 108, 101]⟩ else if k = 2 then ⟨#[100, 105, 114]⟩ else ⟨#[]⟩
set_option maxHeartbeats 400000 in
theorem leafName_any (k : Int) (w : World) : Calls Try.prog 19 #[.int .i64 k] w fun e w' => e = .returned (.string (kindN k)) ∧ w = w' := by
  by_cases h0 : k = 0
  · subst h0
    go_enter Try.func19, Try.ntmps19
    go_wp2_with fail
    go_ret
    exact ⟨rfl, rfl⟩
  · by_cases h1 : k = 1
    · subst h1
      go_enter Try.func19, Try.ntmps19
      go_wp2_with fail
      go_ret
      exact ⟨rfl, rfl⟩
    · by_cases h2 : k = 2
      · subst h2
        go_enter Try.func19, Try.ntmps19
        go_wp2_with fail
        go_ret
        exact ⟨rfl, rfl⟩
      · have e1 := Lib.hid (show kindN k = ⟨#[]⟩ by unfold kindN; rw [if_neg h0, if_neg h1, if_neg h2])
        have b0 : (k == 0) = false := by simpa using h0
        have b1 : (k == 1) = false := by simpa using h1
        have b2 : (k == 2) = false := by simpa using h2
        go_enter Try.func19, Try.ntmps19
        go_wp2_with fail
        go_ret
        exact ⟨by rw [e1.out]; rfl, rfl⟩
end Go.Proofs.Ytofllgmieciakab
