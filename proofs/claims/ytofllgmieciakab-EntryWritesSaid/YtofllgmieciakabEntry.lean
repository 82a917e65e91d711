/- entry and tenderref21: Check, Same, Newer, Row, Clone. -/
import Derived.Test.YtofllgmieciakabLeaf
import Derived.Test.YtofllgmieciakabVersionFn
import Derived.Test.YtofllgmieciakabNameRefUser
namespace Go.Proofs.Ytofllgmieciakab
open Go.RowKit

/-- an entry -/
structure EV where
  p : ByteArray
  v : Int
  k : Int
  x : BV
def EV.cells (o : EV) : List Value := [.string o.p, .int .u64 o.v, .int .i64 o.k, .slice o.x.A o.x.l.length o.x.c]
/-- what an answer to 'is an entry right?' is -/
def checkE (p : List UInt8) (v k : Int) (n : Nat) : Int := if userB p = false then 23 else if isV v = false then 2 else checkN k n

set_option maxRecDepth 100000 in
set_option maxHeartbeats 400000 in
theorem entryCheck_any (p : ByteArray) (v k : Int) (A : Option Addr) (n c : Nat) (w : World) (hp : p.size ≤ 9223372036854775807) (hv : 0 ≤ v ∧ v < 18446744073709551616) (hn : n ≤ 140737488355328) :
    Calls Try.prog 32 #[.agg #[.string p, .int .u64 v, .int .i64 k, .slice A n c]] w fun e w' => e = .returned (.int .i64 (checkE (tl p) v k n)) ∧ Below w.heap.size w w' := by
  obtain ⟨R, hR⟩ : ∃ R, R = checkE (tl p) v k n := ⟨_, rfl⟩
  rw [← hR]
  have HU := Lib.hid (fun w => user_any p hp w)
  have HV := Lib.hid (fun w => is_any v w hv.1 hv.2)
  have HL := Lib.hid (fun w => leafCheck_any k A n c w hn)
  cases hu : userB (tl p)
  · have HR : Hid (R = 23) := by show _ = _; rw [hR]; unfold checkE; rw [hu, if_pos rfl]
    rw [hu] at HU
    clear hR hu
    go_enter Try.func32, Try.ntmps32
    go_wp2_with fail
    refine (HU.out _).mono ?_
    rintro e w1 ⟨rfl, hb1⟩
    go_wp2_with fail
    go_ret
    exact ⟨ret_i HR.out.symm, ((Below.refl _ _).alloc (Nat.le_refl _) _).trans (hb1.mono (by simp))⟩
  · rw [hu] at HU
    have b0 := Blk.new w 58 #[.string p, .int .u64 v, .int .i64 k, .slice A n c]
    have hl : Below w.heap.size w (w.alloc (.cells #[.string p, .int .u64 v, .int .i64 k, .slice A n c] 58)) := (Below.refl _ _).alloc (Nat.le_refl _) _
    cases hvv : isV v
    · have HR : Hid (R = 2) := by show _ = _; rw [hR]; unfold checkE; rw [hu, hvv]; rfl
      rw [hvv] at HV
      clear hR hu hvv
      go_enter Try.func32, Try.ntmps32
      go_wp2_with fail
      generalize w.alloc (.cells #[.string p, .int .u64 v, .int .i64 k, .slice A n c] 58) = W at *
      have hs := hl.size
      refine (HU.out _).mono ?_
      rintro e w1 ⟨rfl, hb1⟩
      have b1 := b0.below hb1
      have c1 : w1.cell? ⟨w.heap.size, 1, none⟩ = some (.int .u64 v) := b1.cell 1
      go_wp2_with fail
      refine (HV.out _).mono ?_
      rintro e w2 ⟨rfl, rfl⟩
      go_wp2_with fail
      go_ret
      exact ⟨ret_i HR.out.symm, hl.trans (hb1.mono hs)⟩
    · have HR : Hid (R = checkN k n) := by show _ = _; rw [hR]; unfold checkE; rw [hu, hvv]; rfl
      rw [hvv] at HV
      rw [← HR.out] at HL
      clear hR hu hvv
      go_enter Try.func32, Try.ntmps32
      go_wp2_with fail
      generalize w.alloc (.cells #[.string p, .int .u64 v, .int .i64 k, .slice A n c] 58) = W at *
      have hs := hl.size
      refine (HU.out _).mono ?_
      rintro e w1 ⟨rfl, hb1⟩
      have b1 := b0.below hb1
      have c1 : w1.cell? ⟨w.heap.size, 1, none⟩ = some (.int .u64 v) := b1.cell 1
      have c2 : w1.cell? ⟨w.heap.size, 2, none⟩ = some (.int .i64 k) := b1.cell 2
      have c3 : w1.cell? ⟨w.heap.size, 3, none⟩ = some (.slice A n c) := b1.cell 3
      go_wp2_with fail
      refine (HV.out _).mono ?_
      rintro e w2 ⟨rfl, rfl⟩
      go_wp2_with fail
      refine (HL.out _).mono ?_
      rintro e w3 ⟨rfl, hb3⟩
      go_wp2_with fail
      go_ret
      exact ⟨rfl, hl.trans ((bthen hb1 hb3).mono hs)⟩

set_option maxRecDepth 100000 in
set_option maxHeartbeats 400000 in
theorem refEntryCheck_any (p : ByteArray) (v k : Int) (A : Option Addr) (n c : Nat) (w : World) (hp : p.size ≤ 9223372036854775807) (hv : 0 ≤ v ∧ v < 18446744073709551616) (hn : n ≤ 140737488355328) :
    Calls Try.prog 33 #[.agg #[.string p, .int .u64 v, .int .i64 k, .slice A n c]] w fun e w' => e = .returned (.int .i64 (checkE (tl p) v k n)) ∧ Below w.heap.size w w' := by
  obtain ⟨R, hR⟩ : ∃ R, R = checkE (tl p) v k n := ⟨_, rfl⟩
  rw [← hR]
  have HU := Lib.hid (fun w => refUser_any p hp w)
  have HV := Lib.hid (fun w => parts_any v w hv.1 hv.2)
  have HL := Lib.hid (fun w => leafCheckR_any k A n c w hn)
  cases hu : userB (tl p)
  · have HR : Hid (R = 23) := by show _ = _; rw [hR]; unfold checkE; rw [hu, if_pos rfl]
    rw [hu] at HU
    clear hR hu
    go_enter Try.func33, Try.ntmps33
    go_wp2_with fail
    refine (HU.out _).mono ?_
    rintro e w1 ⟨rfl, hb1⟩
    go_wp2_with fail
    go_ret
    exact ⟨ret_i HR.out.symm, ((Below.refl _ _).alloc (Nat.le_refl _) _).trans (hb1.mono (by simp))⟩
  · rw [hu] at HU
    have b0 := Blk.new w 58 #[.string p, .int .u64 v, .int .i64 k, .slice A n c]
    have hl : Below w.heap.size w (w.alloc (.cells #[.string p, .int .u64 v, .int .i64 k, .slice A n c] 58)) := (Below.refl _ _).alloc (Nat.le_refl _) _
    cases hvv : isV v
    · have HR : Hid (R = 2) := by show _ = _; rw [hR]; unfold checkE; rw [hu, hvv]; rfl
      rw [hvv] at HV
      clear hR hu hvv
      go_enter Try.func33, Try.ntmps33
      go_wp2_with fail
      generalize w.alloc (.cells #[.string p, .int .u64 v, .int .i64 k, .slice A n c] 58) = W at *
      have hs := hl.size
      refine (HU.out _).mono ?_
      rintro e w1 ⟨rfl, hb1⟩
      have b1 := b0.below hb1
      have c1 : w1.cell? ⟨w.heap.size, 1, none⟩ = some (.int .u64 v) := b1.cell 1
      go_wp2_with fail
      refine (HV.out _).mono ?_
      rintro e w2 ⟨rfl, rfl⟩
      go_wp2_with fail
      go_ret
      exact ⟨ret_i HR.out.symm, hl.trans (hb1.mono hs)⟩
    · have HR : Hid (R = checkN k n) := by show _ = _; rw [hR]; unfold checkE; rw [hu, hvv]; rfl
      rw [hvv] at HV
      rw [← HR.out] at HL
      clear hR hu hvv
      go_enter Try.func33, Try.ntmps33
      go_wp2_with fail
      generalize w.alloc (.cells #[.string p, .int .u64 v, .int .i64 k, .slice A n c] 58) = W at *
      have hs := hl.size
      refine (HU.out _).mono ?_
      rintro e w1 ⟨rfl, hb1⟩
      have b1 := b0.below hb1
      have c1 : w1.cell? ⟨w.heap.size, 1, none⟩ = some (.int .u64 v) := b1.cell 1
      have c2 : w1.cell? ⟨w.heap.size, 2, none⟩ = some (.int .i64 k) := b1.cell 2
      have c3 : w1.cell? ⟨w.heap.size, 3, none⟩ = some (.slice A n c) := b1.cell 3
      go_wp2_with fail
      refine (HV.out _).mono ?_
      rintro e w2 ⟨rfl, rfl⟩
      go_wp2_with fail
      refine (HL.out _).mono ?_
      rintro e w3 ⟨rfl, hb3⟩
      go_wp2_with fail
      go_ret
      exact ⟨rfl, hl.trans ((bthen hb1 hb3).mono hs)⟩
/-- are two the same? -/
def sameE (p q : List UInt8) (v u k j : Int) (l m : List UInt8) : Bool := p == q && v == u && (k == j && l == m)


set_option maxRecDepth 100000 in
set_option maxHeartbeats 400000 in
theorem entrySame_any (p q : ByteArray) (v u k j : Int) (A B : Option Addr) (c d : Nat) (l m : List UInt8) (Z Z' : Nat → Prop) (w : World) (hl : By w Z A l) (hm : By w Z' B m) :
    Calls Try.prog 34 #[.agg #[.string p, .int .u64 v, .int .i64 k, .slice A l.length c], .agg #[.string q, .int .u64 u, .int .i64 j, .slice B m.length d]] w fun e w' => e = .returned (.bool (sameE (tl p) (tl q) v u k j l m)) ∧ Below w.heap.size w w' := by
  obtain ⟨R, hR⟩ : ∃ R, R = sameE (tl p) (tl q) v u k j l m := ⟨_, rfl⟩
  rw [← hR]
  have hl2 := (hl.alloc (.cells #[.string p, .int .u64 v, .int .i64 k, .slice A l.length c] 58)).alloc (.cells #[.string q, .int .u64 u, .int .i64 j, .slice B m.length d] 58)
  have hm2 := (hm.alloc (.cells #[.string p, .int .u64 v, .int .i64 k, .slice A l.length c] 58)).alloc (.cells #[.string q, .int .u64 u, .int .i64 j, .slice B m.length d] 58)
  have HL := Lib.hid (leafSame_any k j A B c d l m Z Z' _ hl2 hm2)
  by_cases hpq : p = q
  · by_cases hvu : v = u
    · have HR : Hid (R = (k == j && l == m)) := by show _ = _; rw [hR]; unfold sameE; rw [hpq, hvu]; simp
      have e1 := eq_yes hpq
      have e2 : (v == u) = true := by simpa using hvu
      rw [← HR.out] at HL
      subst hvu
      clear hR hpq hl2 hm2
      go_enter Try.func34, Try.ntmps34
      go_wp2_with fail
      refine HL.out.mono ?_
      rintro e w1 ⟨rfl, hb1⟩
      go_wp2_with fail
      go_ret
      exact ⟨rfl, (((Below.refl _ _).alloc (Nat.le_refl _) _).alloc (by simp) _).trans (hb1.mono (by simp; omega))⟩
    · have HR : Hid (R = false) := by show _ = _; rw [hR]; unfold sameE; rw [show (v == u) = false by simpa using hvu]; simp
      have e1 := eq_yes hpq
      have e2 : (v == u) = false := by simpa using hvu
      clear hR hpq hl2 hm2 HL
      go_enter Try.func34, Try.ntmps34
      go_wp2_with fail
      go_ret
      exact ⟨ret_b HR.out.symm, (by repeat (first | exact Below.refl _ _ | refine Below.alloc ?_ (by simp) _ | refine Below.setCell ?_ (by simp) _ | refine Below.drew ?_))⟩
  · have HR : Hid (R = false) := by show _ = _; rw [hR]; unfold sameE; rw [show (tl p == tl q) = false by simp only [beq_eq_false_iff_ne, ne_eq]; exact fun e => hpq (tl_inj e)]; simp
    have e1 := eq_no hpq
    clear hR hpq hl2 hm2 HL
    go_enter Try.func34, Try.ntmps34
    go_wp2_with fail
    go_ret
    exact ⟨ret_b HR.out.symm, (by repeat (first | exact Below.refl _ _ | refine Below.alloc ?_ (by simp) _ | refine Below.setCell ?_ (by simp) _ | refine Below.drew ?_))⟩


set_option maxRecDepth 100000 in
set_option maxHeartbeats 400000 in
theorem refEntrySame_any (p q : ByteArray) (v u k j : Int) (A B : Option Addr) (c d : Nat) (l m : List UInt8) (Z Z' : Nat → Prop) (w : World) (hl : By w Z A l) (hm : By w Z' B m) :
    Calls Try.prog 35 #[.agg #[.string p, .int .u64 v, .int .i64 k, .slice A l.length c], .agg #[.string q, .int .u64 u, .int .i64 j, .slice B m.length d]] w fun e w' => e = .returned (.bool (sameE (tl p) (tl q) v u k j l m)) ∧ Below w.heap.size w w' := by
  obtain ⟨R, hR⟩ : ∃ R, R = sameE (tl p) (tl q) v u k j l m := ⟨_, rfl⟩
  rw [← hR]
  have hl2 := (hl.alloc (.cells #[.string p, .int .u64 v, .int .i64 k, .slice A l.length c] 58)).alloc (.cells #[.string q, .int .u64 u, .int .i64 j, .slice B m.length d] 58)
  have hm2 := (hm.alloc (.cells #[.string p, .int .u64 v, .int .i64 k, .slice A l.length c] 58)).alloc (.cells #[.string q, .int .u64 u, .int .i64 j, .slice B m.length d] 58)
  have HL := Lib.hid (leafSameR_any k j A B c d l m Z Z' _ hl2 hm2)
  by_cases hpq : p = q
  · by_cases hvu : v = u
    · have HR : Hid (R = (k == j && l == m)) := by show _ = _; rw [hR]; unfold sameE; rw [hpq, hvu]; simp
      have e1 := eq_yes hpq
      have e2 : (v == u) = true := by simpa using hvu
      rw [← HR.out] at HL
      subst hvu
      clear hR hpq hl2 hm2
      go_enter Try.func35, Try.ntmps35
      go_wp2_with fail
      refine HL.out.mono ?_
      rintro e w1 ⟨rfl, hb1⟩
      go_wp2_with fail
      go_ret
      exact ⟨rfl, (((Below.refl _ _).alloc (Nat.le_refl _) _).alloc (by simp) _).trans (hb1.mono (by simp; omega))⟩
    · have HR : Hid (R = false) := by show _ = _; rw [hR]; unfold sameE; rw [show (v == u) = false by simpa using hvu]; simp
      have e1 := eq_yes hpq
      have e2 : (v == u) = false := by simpa using hvu
      clear hR hpq hl2 hm2 HL
      go_enter Try.func35, Try.ntmps35
      go_wp2_with fail
      go_ret
      exact ⟨ret_b HR.out.symm, (by repeat (first | exact Below.refl _ _ | refine Below.alloc ?_ (by simp) _ | refine Below.setCell ?_ (by simp) _ | refine Below.drew ?_))⟩
  · have HR : Hid (R = false) := by show _ = _; rw [hR]; unfold sameE; rw [show (tl p == tl q) = false by simp only [beq_eq_false_iff_ne, ne_eq]; exact fun e => hpq (tl_inj e)]; simp
    have e1 := eq_no hpq
    clear hR hpq hl2 hm2 HL
    go_enter Try.func35, Try.ntmps35
    go_wp2_with fail
    go_ret
    exact ⟨ret_b HR.out.symm, (by repeat (first | exact Below.refl _ _ | refine Below.alloc ?_ (by simp) _ | refine Below.setCell ?_ (by simp) _ | refine Below.drew ?_))⟩

set_option maxRecDepth 100000 in
theorem entryNewer_any (p q : ByteArray) (v u k j : Int) (x y : Value) (w : World) :
    Calls Try.prog 36 #[.agg #[.string p, .int .u64 v, .int .i64 k, x], .agg #[.string q, .int .u64 u, .int .i64 j, y]] w fun e w' => e = .returned (.bool (decide (u < v))) ∧ Below w.heap.size w w' := by
  go_enter Try.func36, Try.ntmps36
  go_wp2_with fail
  go_ret
  exact ⟨rfl, (by repeat (first | exact Below.refl _ _ | refine Below.alloc ?_ (by simp) _ | refine Below.setCell ?_ (by simp) _ | refine Below.drew ?_))⟩
end Go.Proofs.Ytofllgmieciakab
