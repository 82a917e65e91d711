/- entry and tenderref21: Check, Same, Newer, Row, Clone. -/
import Derived.Test.YtdnljmncdbcgeaaA03
import Derived.Lib.BitFns
import Derived.Deep.RegionLaw
import Derived.Outline
import Derived.IntWalk

namespace Go.Proofs.Ytdnljmncdbcgeaa
open Go.RowKit

/-- an entry -/
structure EV where
  p : ByteArray
  v : Int
  k : Int
  x : BV
def EV.cells (o : EV) : List Value := [.string o.p, .int .u64 o.v, .int .i64 o.k, .slice o.x.A o.x.l.length o.x.c]
/-- what an answer to 'is an entry right?' is -/
def checkE (p : List UInt8) (v k : Int) (n : Nat) : Int := if userB p = false then 23 else if isV v = false then 2 else checkN k n

set_option maxRecDepth 100000 in
set_option maxHeartbeats 400000 in
theorem entryCheck_any (p : ByteArray) (v k : Int) (A : Option Addr) (n c : Nat) (w : World) (hp : p.size ≤ 9223372036854775807) (hv : 0 ≤ v ∧ v < 18446744073709551616) (hn : n ≤ 140737488355328) :
    Calls Try.prog 53 #[.agg #[.string p, .int .u64 v, .int .i64 k, .slice A n c]] w fun e w' => e = .returned (.int .i64 (checkE (tl p) v k n)) ∧ Below w.heap.size w w' := by
  obtain ⟨R, hR⟩ : ∃ R, R = checkE (tl p) v k n := ⟨_, rfl⟩
  rw [← hR]
  have HU := Lib.hid (fun w => user_any p hp w)
  have HV := Lib.hid (fun w => is_any v w hv.1 hv.2)
  have HL := Lib.hid (fun w => leafCheck_any k A n c w hn)
  cases hu : userB (tl p)
  · have HR : Hid (R = 23) := by show _ = _; rw [hR]; unfold checkE; rw [hu, if_pos rfl]
    rw [hu] at HU
    clear hR hu
    go_enter Try.func53, Try.ntmps53
    go_wp2_with fail
    refine (HU.out _).mono ?_
    rintro e w1 ⟨rfl, hb1⟩
    go_wp2_with fail
    go_ret
    exact ⟨ret_i HR.out.symm, ((Below.refl _ _).alloc (Nat.le_refl _) _).trans (hb1.mono (by simp))⟩
  · rw [hu] at HU
    have b0 := Blk.new w 28 #[.string p, .int .u64 v, .int .i64 k, .slice A n c]
    have hl : Below w.heap.size w (w.alloc (.cells #[.string p, .int .u64 v, .int .i64 k, .slice A n c] 28)) := (Below.refl _ _).alloc (Nat.le_refl _) _
    cases hvv : isV v
    · have HR : Hid (R = 2) := by show _ = _; rw [hR]; unfold checkE; rw [hu, hvv]; rfl
      rw [hvv] at HV
      clear hR hu hvv
      go_enter Try.func53, Try.ntmps53
      go_wp2_with fail
      generalize w.alloc (.cells #[.string p, .int .u64 v, .int .i64 k, .slice A n c] 28) = W at *
      have hs := hl.size
      refine (HU.out _).mono ?_
      rintro e w1 ⟨rfl, hb1⟩
      have b1 := b0.below hb1
      have c1 : w1.cell? ⟨w.heap.size, 1, none⟩ = some (.int .u64 v) := b1.cell 1
      go_wp2_with fail
      refine (HV.out _).mono ?_
      rintro e w2 ⟨rfl, rfl⟩
      go_wp2_with fail
      go_ret
      exact ⟨ret_i HR.out.symm, hl.trans (hb1.mono hs)⟩
    · have HR : Hid (R = checkN k n) := by show _ = _; rw [hR]; unfold checkE; rw [hu, hvv]; rfl
      rw [hvv] at HV
      rw [← HR.out] at HL
      clear hR hu hvv
      go_enter Try.func53, Try.ntmps53
      go_wp2_with fail
      generalize w.alloc (.cells #[.string p, .int .u64 v, .int .i64 k, .slice A n c] 28) = W at *
      have hs := hl.size
      refine (HU.out _).mono ?_
      rintro e w1 ⟨rfl, hb1⟩
      have b1 := b0.below hb1
      have c1 : w1.cell? ⟨w.heap.size, 1, none⟩ = some (.int .u64 v) := b1.cell 1
      have c2 : w1.cell? ⟨w.heap.size, 2, none⟩ = some (.int .i64 k) := b1.cell 2
      have c3 : w1.cell? ⟨w.heap.size, 3, none⟩ = some (.slice A n c) := b1.cell 3
      go_wp2_with fail
      refine (HV.out _).mono ?_
      rintro e w2 ⟨rfl, rfl⟩
      go_wp2_with fail
      refine (HL.out _).mono ?_
      rintro e w3 ⟨rfl, hb3⟩
      go_wp2_with fail
      go_ret
      exact ⟨rfl, hl.trans ((bthen hb1 hb3).mono hs)⟩

set_option maxRecDepth 100000 in
set_option maxHeartbeats 400000 in
theorem refEntryCheck_any (p : ByteArray) (v k : Int) (A : Option Addr) (n c : Nat) (w : World) (hp : p.size ≤ 9223372036854775807) (hv : 0 ≤ v ∧ v < 18446744073709551616) (hn : n ≤ 140737488355328) :
    Calls Try.prog 50 #[.agg #[.string p, .int .u64 v, .int .i64 k, .slice A n c]] w fun e w' => e = .returned (.int .i64 (checkE (tl p) v k n)) ∧ Below w.heap.size w w' := by
  obtain ⟨R, hR⟩ : ∃ R, R = checkE (tl p) v k n := ⟨_, rfl⟩
  rw [← hR]
  have HU := Lib.hid (fun w => refUser_any p hp w)
  have HV := Lib.hid (fun w => parts_any v w hv.1 hv.2)
  have HL := Lib.hid (fun w => leafCheckR_any k A n c w hn)
  cases hu : userB (tl p)
  · have HR : Hid (R = 23) := by show _ = _; rw [hR]; unfold checkE; rw [hu, if_pos rfl]
    rw [hu] at HU
    clear hR hu
    go_enter Try.func50, Try.ntmps50
    go_wp2_with fail
    refine (HU.out _).mono ?_
    rintro e w1 ⟨rfl, hb1⟩
    go_wp2_with fail
    go_ret
    exact ⟨ret_i HR.out.symm, ((Below.refl _ _).alloc (Nat.le_refl _) _).trans (hb1.mono (by simp))⟩
  · rw [hu] at HU
    have b0 := Blk.new w 28 #[.string p, .int .u64 v, .int .i64 k, .slice A n c]
    have hl : Below w.heap.size w (w.alloc (.cells #[.string p, .int .u64 v, .int .i64 k, .slice A n c] 28)) := (Below.refl _ _).alloc (Nat.le_refl _) _
    cases hvv : isV v
    · have HR : Hid (R = 2) := by show _ = _; rw [hR]; unfold checkE; rw [hu, hvv]; rfl
      rw [hvv] at HV
      clear hR hu hvv
      go_enter Try.func50, Try.ntmps50
      go_wp2_with fail
      generalize w.alloc (.cells #[.string p, .int .u64 v, .int .i64 k, .slice A n c] 28) = W at *
      have hs := hl.size
      refine (HU.out _).mono ?_
      rintro e w1 ⟨rfl, hb1⟩
      have b1 := b0.below hb1
      have c1 : w1.cell? ⟨w.heap.size, 1, none⟩ = some (.int .u64 v) := b1.cell 1
      go_wp2_with fail
      refine (HV.out _).mono ?_
      rintro e w2 ⟨rfl, rfl⟩
      go_wp2_with fail
      go_ret
      exact ⟨ret_i HR.out.symm, hl.trans (hb1.mono hs)⟩
    · have HR : Hid (R = checkN k n) := by show _ = _; rw [hR]; unfold checkE; rw [hu, hvv]; rfl
      rw [hvv] at HV
      rw [← HR.out] at HL
      clear hR hu hvv
      go_enter Try.func50, Try.ntmps50
      go_wp2_with fail
      generalize w.alloc (.cells #[.string p, .int .u64 v, .int .i64 k, .slice A n c] 28) = W at *
      have hs := hl.size
      refine (HU.out _).mono ?_
      rintro e w1 ⟨rfl, hb1⟩
      have b1 := b0.below hb1
      have c1 : w1.cell? ⟨w.heap.size, 1, none⟩ = some (.int .u64 v) := b1.cell 1
      have c2 : w1.cell? ⟨w.heap.size, 2, none⟩ = some (.int .i64 k) := b1.cell 2
      have c3 : w1.cell? ⟨w.heap.size, 3, none⟩ = some (.slice A n c) := b1.cell 3
      go_wp2_with fail
      refine (HV.out _).mono ?_
      rintro e w2 ⟨rfl, rfl⟩
      go_wp2_with fail
      refine (HL.out _).mono ?_
      rintro e w3 ⟨rfl, hb3⟩
      go_wp2_with fail
      go_ret
      exact ⟨rfl, hl.trans ((bthen hb1 hb3).mono hs)⟩
/-- are two the same? -/
def sameE (p q : List UInt8) (v u k j : Int) (l m : List UInt8) : Bool := p == q && v == u && (k == j && l == m)


set_option maxRecDepth 100000 in
set_option maxHeartbeats 400000 in
theorem entrySame_any (p q : ByteArray) (v u k j : Int) (A B : Option Addr) (c d : Nat) (l m : List UInt8) (Z Z' : Nat → Prop) (w : World) (hl : By w Z A l) (hm : By w Z' B m) :
    Calls Try.prog 76 #[.agg #[.string p, .int .u64 v, .int .i64 k, .slice A l.length c], .agg #[.string q, .int .u64 u, .int .i64 j, .slice B m.length d]] w fun e w' => e = .returned (.bool (sameE (tl p) (tl q) v u k j l m)) ∧ Below w.heap.size w w' := by
  obtain ⟨R, hR⟩ : ∃ R, R = sameE (tl p) (tl q) v u k j l m := ⟨_, rfl⟩
  rw [← hR]
  have hl2 := (hl.alloc (.cells #[.string p, .int .u64 v, .int .i64 k, .slice A l.length c] 28)).alloc (.cells #[.string q, .int .u64 u, .int .i64 j, .slice B m.length d] 28)
  have hm2 := (hm.alloc (.cells #[.string p, .int .u64 v, .int .i64 k, .slice A l.length c] 28)).alloc (.cells #[.string q, .int .u64 u, .int .i64 j, .slice B m.length d] 28)
  have HL := Lib.hid (leafSame_any k j A B c d l m Z Z' _ hl2 hm2)
  by_cases hpq : p = q
  · by_cases hvu : v = u
    · have HR : Hid (R = (k == j && l == m)) := by show _ = _; rw [hR]; unfold sameE; rw [hpq, hvu]; simp
      have e1 := eq_yes hpq
      have e2 : (v == u) = true := by simpa using hvu
      rw [← HR.out] at HL
      subst hvu
      clear hR hpq hl2 hm2
      go_enter Try.func76, Try.ntmps76
      go_wp2_with fail
      refine HL.out.mono ?_
      rintro e w1 ⟨rfl, hb1⟩
      go_wp2_with fail
      go_ret
      exact ⟨rfl, (((Below.refl _ _).alloc (Nat.le_refl _) _).alloc (by simp) _).trans (hb1.mono (by simp; omega))⟩
    · have HR : Hid (R = false) := by show _ = _; rw [hR]; unfold sameE; rw [show (v == u) = false by simpa using hvu]; simp
      have e1 := eq_yes hpq
      have e2 : (v == u) = false := by simpa using hvu
      clear hR hpq hl2 hm2 HL
      go_enter Try.func76, Try.ntmps76
      go_wp2_with fail
      go_ret
      exact ⟨ret_b HR.out.symm, (by repeat (first | exact Below.refl _ _ | refine Below.alloc ?_ (by simp) _ | refine Below.setCell ?_ (by simp) _ | refine Below.drew ?_))⟩
  · have HR : Hid (R = false) := by show _ = _; rw [hR]; unfold sameE; rw [show (tl p == tl q) = false by simp only [beq_eq_false_iff_ne, ne_eq]; exact fun e => hpq (tl_inj e)]; simp
    have e1 := eq_no hpq
    clear hR hpq hl2 hm2 HL
    go_enter Try.func76, Try.ntmps76
    go_wp2_with fail
    go_ret
    exact ⟨ret_b HR.out.symm, (by repeat (first | exact Below.refl _ _ | refine Below.alloc ?_ (by simp) _ | refine Below.setCell ?_ (by simp) _ | refine Below.drew ?_))⟩


set_option maxRecDepth 100000 in
set_option maxHeartbeats 400000 in
theorem refEntrySame_any (p q : ByteArray) (v u k j : Int) (A B : Option Addr) (c d : Nat) (l m : List UInt8) (Z Z' : Nat → Prop) (w : World) (hl : By w Z A l) (hm : By w Z' B m) :
    Calls Try.prog 19 #[.agg #[.string p, .int .u64 v, .int .i64 k, .slice A l.length c], .agg #[.string q, .int .u64 u, .int .i64 j, .slice B m.length d]] w fun e w' => e = .returned (.bool (sameE (tl p) (tl q) v u k j l m)) ∧ Below w.heap.size w w' := by
  obtain ⟨R, hR⟩ : ∃ R, R = sameE (tl p) (tl q) v u k j l m := ⟨_, rfl⟩
  rw [← hR]
  have hl2 := (hl.alloc (.cells #[.string p, .int .u64 v, .int .i64 k, .slice A l.length c] 28)).alloc (.cells #[.string q, .int .u64 u, .int .i64 j, .slice B m.length d] 28)
  have hm2 := (hm.alloc (.cells #[.string p, .int .u64 v, .int .i64 k, .slice A l.length c] 28)).alloc (.cells #[.string q, .int .u64 u, .int .i64 j, .slice B m.length d] 28)
  have HL := Lib.hid (leafSameR_any k j A B c d l m Z Z' _ hl2 hm2)
  by_cases hpq : p = q
  · by_cases hvu : v = u
    · have HR : Hid (R = (k == j && l == m)) := by show _ = _; rw [hR]; unfold sameE; rw [hpq, hvu]; simp
      have e1 := eq_yes hpq
      have e2 : (v == u) = true := by simpa using hvu
      rw [← HR.out] at HL
      subst hvu
      clear hR hpq hl2 hm2
      go_enter Try.func19, Try.ntmps19
      go_wp2_with fail
      refine HL.out.mono ?_
      rintro e w1 ⟨rfl, hb1⟩
      go_wp2_with fail
      go_ret
      exact ⟨rfl, (((Below.refl _ _).alloc (Nat.le_refl _) _).alloc (by simp) _).trans (hb1.mono (by simp; omega))⟩
    · have HR : Hid (R = false) := by show _ = _; rw [hR]; unfold sameE; rw [show (v == u) = false by simpa using hvu]; simp
      have e1 := eq_yes hpq
      have e2 : (v == u) = false := by simpa using hvu
      clear hR hpq hl2 hm2 HL
      go_enter Try.func19, Try.ntmps19
      go_wp2_with fail
      go_ret
      exact ⟨ret_b HR.out.symm, (by repeat (first | exact Below.refl _ _ | refine Below.alloc ?_ (by simp) _ | refine Below.setCell ?_ (by simp) _ | refine Below.drew ?_))⟩
  · have HR : Hid (R = false) := by show _ = _; rw [hR]; unfold sameE; rw [show (tl p == tl q) = false by simp only [beq_eq_false_iff_ne, ne_eq]; exact fun e => hpq (tl_inj e)]; simp
    have e1 := eq_no hpq
    clear hR hpq hl2 hm2 HL
    go_enter Try.func19, Try.ntmps19
    go_wp2_with fail
    go_ret
    exact ⟨ret_b HR.out.symm, (by repeat (first | exact Below.refl _ _ | refine Below.alloc ?_ (by simp) _ | refine Below.setCell ?_ (by simp) _ | refine Below.drew ?_))⟩

set_option maxRecDepth 100000 in
theorem entryNewer_any (p q : ByteArray) (v u k j : Int) (x y : Value) (w : World) :
    Calls Try.prog 55 #[.agg #[.string p, .int .u64 v, .int .i64 k, x], .agg #[.string q, .int .u64 u, .int .i64 j, y]] w fun e w' => e = .returned (.bool (decide (u < v))) ∧ Below w.heap.size w w' := by
  go_enter Try.func55, Try.ntmps55
  go_wp2_with fail
  go_ret
  exact ⟨rfl, (by repeat (first | exact Below.refl _ _ | refine Below.alloc ?_ (by simp) _ | refine Below.setCell ?_ (by simp) _ | refine Below.drew ?_))⟩
end Go.Proofs.Ytdnljmncdbcgeaa

/- tenderlaw21: Light. -/
namespace Go.Proofs.Ytdnljmncdbcgeaa
open Go.RowKit

/-- what is known of an entry -/
structure EV.ok (w : World) (Z : Nat → Prop) (o : EV) : Prop where
  x : o.x.ok w Z
  len : o.x.l.length ≤ 140737488355328
  p : o.p.size ≤ 140737488355328
  v : 0 ≤ o.v ∧ o.v < 18446744073709551616
  k : -9223372036854775808 ≤ o.k ∧ o.k < 9223372036854775808
theorem EV.ok.fr {w w' : World} {Z S : Nat → Prop} {o : EV} (h : o.ok w Z) (k : Fr S w w') (hs : ∀ b, b < w.heap.size → Z b → ¬ S b) : o.ok w' Z := ⟨h.x.fr k hs, h.len, h.p, h.v, h.k⟩
theorem EV.ok.below {w w' : World} {Z : Nat → Prop} {o : EV} (h : o.ok w Z) (k : Below w.heap.size w w') : o.ok w' Z := h.fr (Fr.of_below k (fun _ => False)) (fun _ _ _ h => h)
theorem EV.ok.mono {w : World} {Z Z' : Nat → Prop} {o : EV} (h : o.ok w Z) (hz : ∀ b, b < w.heap.size → Z b → Z' b) : o.ok w Z' := ⟨h.x.mono hz, h.len, h.p, h.v, h.k⟩
/-- entries in a slice -/
structure Ents (w : World) (Z : Nat → Prop) (A : Option Addr) (l : List EV) : Prop where
  rd : Rd w Z 4 A l.length (l.flatMap EV.cells)
  ok : ∀ o ∈ l, o.ok w Z
  len : l.length ≤ 140737488355328
theorem Ents.fr {w w' : World} {Z S : Nat → Prop} {A : Option Addr} {l : List EV} (h : Ents w Z A l) (k : Fr S w w') (hs : ∀ b, b < w.heap.size → Z b → ¬ S b) : Ents w' Z A l :=
  ⟨h.rd.fr k hs, fun o ho => (h.ok o ho).fr k hs, h.len⟩
theorem Ents.below {w w' : World} {Z : Nat → Prop} {A : Option Addr} {l : List EV} (h : Ents w Z A l) (k : Below w.heap.size w w') : Ents w' Z A l := h.fr (Fr.of_below k (fun _ => False)) (fun _ _ _ h => h)
theorem ent_at {w : World} {Z : Nat → Prop} {A : Option Addr} {l : List EV} {i : Nat} (h : Rd w Z 4 A l.length (l.flatMap EV.cells)) (hi : i < l.length) :
    ∃ b off, A = some ⟨b, off, none⟩ ∧ Z b ∧ b < w.heap.size ∧ w.cell? ⟨b, off + i * 4, none⟩ = some (.string l[i].p) ∧ w.cell? ⟨b, off + i * 4 + 1, none⟩ = some (.int .u64 l[i].v) ∧
      w.cell? ⟨b, off + i * 4 + 2, none⟩ = some (.int .i64 l[i].k) ∧ w.cell? ⟨b, off + i * 4 + 3, none⟩ = some (.slice l[i].x.A l[i].x.l.length l[i].x.c) := by
  obtain ⟨b, off, hA, hz, hb, hc⟩ := h.2 (by omega)
  have hg : ∀ j, j < 4 → (l.flatMap EV.cells)[i * 4 + j]? = (EV.cells l[i])[j]? := fun j hj => flat_get (k := 4) (fun _ => rfl) l i j hi hj
  refine ⟨b, off, hA, hz, hb, ?_, ?_, ?_, ?_⟩
  · exact hc _ _ (hg 0 (by omega))
  · rw [Nat.add_assoc]; exact hc _ _ (hg 1 (by omega))
  · rw [Nat.add_assoc]; exact hc _ _ (hg 2 (by omega))
  · rw [Nat.add_assoc]; exact hc _ _ (hg 3 (by omega))
def lenE (o : EV) : Nat := o.p.size + o.x.l.length
def lensE (l : List EV) : Nat := (l.map lenE).sum
def lightE (l : List EV) : Bool := decide (lensE l ≤ 20000) && decide (l.length ≤ 400)
theorem lensE_take (l : List EV) (i : Nat) (hi : i < l.length) : lensE (l.take (i + 1)) = lensE (l.take i) + lenE l[i] := by
  unfold lensE
  rw [List.take_succ_eq_append_getElem hi, List.map_append, List.sum_append]
  simp
theorem lensE_le (K : Nat) : ∀ (l : List EV), (∀ o ∈ l, lenE o ≤ K) → lensE l ≤ l.length * K
  | [], _ => by simp [lensE]
  | o :: l, h => by
    have h1 := h o (by simp)
    have h2 := lensE_le K l (fun o ho => h o (by simp [ho]))
    simp only [lensE, List.map_cons, List.sum_cons, List.length_cons, Nat.add_mul] at h2 ⊢
    omega
theorem lensE_take_le (K : Nat) (l : List EV) (i : Nat) (h : ∀ o ∈ l, lenE o ≤ K) : lensE (l.take i) ≤ i * K := by
  have h1 := lensE_le K (l.take i) (fun o ho => h o (List.mem_of_mem_take ho))
  have h2 : (l.take i).length ≤ i := List.length_take_le _ _
  have h3 : (l.take i).length * K ≤ i * K := Nat.mul_le_mul_right _ h2
  omega
/-- the sum that Light has made: right while few have been seen -/
def SeenE (l : List EV) (i : Nat) (s : Int) : Prop := i ≤ 400 → s = (lensE (l.take i) : Int)
theorem seenE_step {l : List EV} {i : Nat} {s : Int} (hs : SeenE l i s) (hi : i < l.length) (h : ∀ o ∈ l, lenE o ≤ 281474976710656) : SeenE l (i + 1) (wrap64 (s + (lenE l[i] : Int))) := by
  intro hi2
  have e := hs (by omega)
  have h1 := lensE_take_le 281474976710656 l (i + 1) h
  have h2 := lensE_take l i hi
  have h3 : (i + 1) * 281474976710656 ≤ 401 * 281474976710656 := Nat.mul_le_mul_right _ (by omega)
  rw [h2] at h1 ⊢
  rw [e, IntWalk.wrap64_in _ ⟨by omega, by omega⟩]
  omega

set_option maxRecDepth 100000 in
set_option maxHeartbeats 400000 in
theorem lightE_any (A : Option Addr) (c : Nat) (l : List EV) (Z : Nat → Prop) (w : World) (h : Ents w Z A l) :
    Calls Try.prog 11 #[.slice A l.length c] w fun e w' => e = .returned (.bool (lightE l)) ∧ Below w.heap.size w w' := by
  have hlen := h.len
  go_enter Try.func11, Try.ntmps11
  go_wp2_with fail
  go_loopw [3, 8] (fun sv iv wr => ∃ (i : Nat) (s : Int), i ≤ l.length ∧ iv = .int .i64 (i : Int) ∧ sv = .int .i64 s ∧ SeenE l i s ∧ Below w.heap.size w wr) (fun _ iv _ => l.length - (intOf iv).toNat)
  case atStart => exact ⟨0, 0, Nat.zero_le _, rfl, rfl, by intro _; simp [lensE], Below.refl _ _⟩
  case round =>
    obtain ⟨i, s, hi, rfl, rfl, hs, hb⟩ := hrel
    by_cases hlt : i < l.length
    · obtain ⟨b, off, rfl, hz, hbb, hc0, hc1, hc2, hc3⟩ := ent_at (h.rd.below hb) hlt
      have hsz := hb.size
      have hok := h.ok _ (List.getElem_mem hlt)
      have hxl := hok.len
      have hpl := hok.p
      have hst := Lib.hid (seenE_step hs hlt (fun o ho => by have h1 := (h.ok o ho).len; have h2 := (h.ok o ho).p; unfold lenE; omega))
      have hle : lenE l[i] = l[i].p.size + l[i].x.l.length := rfl
      rw [hle] at hst
      clear hle hok
      generalize l[i] = o at *
      obtain ⟨p, v, k, xA, xc, xl⟩ := o
      dsimp only at *
      go_wp2_with fail
      go_roundw
      case rel => exact ⟨i + 1, _, hlt, by go_num, rfl, by have := hst.out; push_cast at this; exact this, (hb.alloc hsz _)⟩
      case measure => simp [intOf]; omega
    · have e : i = l.length := by omega
      subst e
      by_cases h2 : l.length ≤ 400
      · have hss := hs h2
        rw [List.take_length] at hss
        subst hss
        go_wp2
        all_goals
          go_ret
          exact ⟨ret_b (by unfold lightE; rw [Bool.eq_iff_iff]; simp; omega), hb⟩
      · go_wp2
        all_goals
          go_ret
          exact ⟨ret_b (by unfold lightE; rw [Bool.eq_iff_iff]; simp; omega), hb⟩
end Go.Proofs.Ytdnljmncdbcgeaa

/- The bytes of numbers and texts, as plain lists. -/
namespace Go.Proofs.Ytdnljmncdbcgeaa
open Go.RowKit

def dg : Nat → Nat → List UInt8 → List UInt8
  | 0, _, acc => acc
  | f + 1, n, acc => if n = 0 then acc else dg f (n / 256) (UInt8.ofNat (n % 256) :: acc)
def digs (n : Nat) : List UInt8 := dg 8 n []
def numB (n : Nat) : List UInt8 := UInt8.ofNat (digs n).length :: digs n
def textB (l : List UInt8) : List UInt8 := numB l.length ++ l

theorem bv_ofNat {m : Nat} (h : m < 256) : bv (UInt8.ofNat m) = .int .u8 (m : Int) := by
  unfold bv
  rw [UInt8.toNat_ofNat']
  rw [Nat.mod_eq_of_lt h]

theorem dg_zero (f : Nat) (acc : List UInt8) : dg f 0 acc = acc := by cases f <;> simp [dg]
theorem dg_len : ∀ (f n : Nat) (acc : List UInt8), (dg f n acc).length ≤ f + acc.length
  | 0, _, acc => by simp [dg]
  | f + 1, n, acc => by
    unfold dg
    split
    · omega
    · have := dg_len f (n / 256) (UInt8.ofNat (n % 256) :: acc)
      simp only [List.length_cons] at this
      omega
theorem digs_len (n : Nat) : (digs n).length ≤ 8 := by have := dg_len 8 n []; simpa [digs] using this
theorem numB_len (n : Nat) : (numB n).length ≤ 9 := by simp only [numB, List.length_cons]; have := digs_len n; omega

theorem dg_app : ∀ (f n : Nat) (acc : List UInt8), dg f n acc = dg f n [] ++ acc
  | 0, _, acc => by simp [dg]
  | f + 1, n, acc => by
    unfold dg
    split
    · simp
    · rw [dg_app f (n / 256) (_ :: acc), dg_app f (n / 256) [_], List.append_assoc]
      rfl
/-- one digit more -/
theorem dg_fuel : ∀ (f n : Nat), n < 256 ^ f → ∀ k, dg (f + k) n [] = dg f n []
  | 0, n, h, k => by
    have : n = 0 := by simpa using h
    subst this
    rw [dg_zero, dg_zero]
  | f + 1, n, h, k => by
    rw [show f + 1 + k = (f + k) + 1 by omega]
    unfold dg
    split
    · rfl
    · have h' : n / 256 < 256 ^ f := by
        rw [Nat.div_lt_iff_lt_mul (by omega)]
        rw [Nat.pow_succ] at h
        exact h
      rw [dg_app (f + k), dg_app f, dg_fuel f _ h' k]
theorem digs_step {n : Nat} (h0 : 0 < n) (h : n < 18446744073709551616) : digs n = digs (n / 256) ++ [UInt8.ofNat (n % 256)] := by
  have e : dg 8 n [] = dg 7 (n / 256) [UInt8.ofNat (n % 256)] := by
    conv => lhs; unfold dg
    rw [if_neg (by omega)]
  have h' : n / 256 < 256 ^ 7 := by omega
  unfold digs
  rw [e, dg_app, dg_fuel 7 (n / 256) h' 1]
theorem digs_zero : digs 0 = [] := dg_zero 8 []
theorem digs_lt {n : Nat} (k : Nat) (hk : k ≤ 8) (h : n < 256 ^ k) : (digs n).length ≤ k := by
  unfold digs
  have := dg_fuel k n h (8 - k)
  rw [show k + (8 - k) = 8 by omega] at this
  rw [this]
  simpa using dg_len k n []

theorem pow_le8 {f : Nat} (h : f ≤ 8) : 256 ^ f ≤ 18446744073709551616 := Nat.le_trans (Nat.pow_le_pow_right (by decide) h) (by decide)
theorem dg_cons {f m : Nat} (h0 : 0 < m) (acc : List UInt8) : dg (f + 1) m acc = dg f (m / 256) (UInt8.ofNat (m % 256) :: acc) := by
  conv => lhs; unfold dg
  rw [if_neg (by omega)]

theorem digs_range : ∀ (k n : Nat), k ≤ 8 → n < 256 ^ k → n < 256 ^ (digs n).length ∧ (0 < n → 256 ^ ((digs n).length - 1) ≤ n ∧ 0 < (digs n).length)
  | 0, n, _, h => by
    have : n = 0 := by simpa using h
    subst this
    rw [digs_zero]
    simp
  | k + 1, n, hk, h => by
    rcases Nat.eq_zero_or_pos n with h0 | h0
    · subst h0
      rw [digs_zero]
      simp
    · have h64 : n < 18446744073709551616 := Nat.lt_of_lt_of_le h (pow_le8 hk)
      have h' : n / 256 < 256 ^ k := by
        rw [Nat.div_lt_iff_lt_mul (by omega)]
        rw [Nat.pow_succ] at h
        exact h
      obtain ⟨i1, i2⟩ := digs_range k (n / 256) (by omega) h'
      rw [digs_step h0 h64, List.length_append, List.length_singleton, Nat.add_sub_cancel]
      refine ⟨?_, fun _ => ⟨?_, by omega⟩⟩
      · rw [Nat.pow_succ]; omega
      · rcases Nat.eq_zero_or_pos (n / 256) with h1 | h1
        · rw [h1, digs_zero]; simp; omega
        · obtain ⟨j1, j2⟩ := i2 h1
          obtain ⟨m, hm⟩ : ∃ m, (digs (n / 256)).length = m + 1 := ⟨_, (Nat.succ_pred_eq_of_pos j2).symm⟩
          rw [hm] at j1 ⊢
          rw [Nat.add_sub_cancel] at j1
          rw [Nat.pow_succ]
          omega

theorem bitAux_range : ∀ (f n : Nat), n < 2 ^ f → n < 2 ^ Lib.bitLenAux f n ∧ (0 < n → 2 ^ (Lib.bitLenAux f n - 1) ≤ n) ∧ Lib.bitLenAux f n ≤ f
  | 0, n, h => by
    have : n = 0 := by simpa using h
    subst this
    simp [Lib.bitLenAux]
  | f + 1, n, h => by
    unfold Lib.bitLenAux
    split
    · rename_i h0; subst h0; simp
    · rename_i h0
      have h' : n / 2 < 2 ^ f := by rw [Nat.pow_succ] at h; omega
      obtain ⟨i1, i2, i3⟩ := bitAux_range f (n / 2) h'
      refine ⟨by rw [Nat.add_comm, Nat.pow_succ]; omega, fun _ => ?_, by omega⟩
      rw [Nat.add_sub_cancel_left]
      rcases Nat.eq_zero_or_pos (n / 2) with h1 | h1
      · rw [h1]
        have : Lib.bitLenAux f 0 = 0 := by cases f <;> simp [Lib.bitLenAux]
        rw [this]
        simp; omega
      · have j := i2 h1
        have hb : 0 < Lib.bitLenAux f (n / 2) := by
          rcases Nat.eq_zero_or_pos (Lib.bitLenAux f (n / 2)) with hz | hz
          · rw [hz] at i1; simp at i1; omega
          · exact hz
        obtain ⟨m, hm⟩ : ∃ m, Lib.bitLenAux f (n / 2) = m + 1 := ⟨_, (Nat.succ_pred_eq_of_pos hb).symm⟩
        rw [hm] at j ⊢
        rw [Nat.add_sub_cancel] at j
        rw [Nat.pow_succ]
        omega

theorem bitLen_le {n : Nat} (h : n < 18446744073709551616) : Lib.bitLen n ≤ 64 := (bitAux_range 64 n h).2.2
theorem bitLen_wd {n : Nat} (h : n < 18446744073709551616) : (Lib.bitLen n + 7) / 8 = (digs n).length := by
  obtain ⟨a1, a2, a3⟩ := bitAux_range 64 n h
  obtain ⟨b1, b2⟩ := digs_range 8 n (by omega) h
  rcases Nat.eq_zero_or_pos n with h0 | h0
  · subst h0
    rw [digs_zero]
    decide
  · have a4 := a2 h0
    obtain ⟨b3, b4⟩ := b2 h0
    have p1 : ∀ k : Nat, 256 ^ k = 2 ^ (8 * k) := fun k => by rw [Nat.pow_mul]
    rw [p1] at b1 b3
    unfold Lib.bitLen
    generalize Lib.bitLenAux 64 n = b at *
    generalize (digs n).length = d at *
    have c1 : 8 * (d - 1) < b := (Nat.pow_lt_pow_iff_right (by decide : 1 < 2)).1 (Nat.lt_of_le_of_lt b3 a1)
    have c2 : b - 1 < 8 * d := (Nat.pow_lt_pow_iff_right (by decide : 1 < 2)).1 (Nat.lt_of_le_of_lt a4 b1)
    omega

theorem digs_get : ∀ (k n i : Nat), n < 18446744073709551616 → k + 1 + i = (digs n).length → (digs n).getD i 0 = UInt8.ofNat (n / 256 ^ k % 256)
  | k, n, i, h, hk => by
    have h0 : 0 < n := by
      rcases Nat.eq_zero_or_pos n with h0 | h0
      · subst h0; rw [digs_zero] at hk; simp at hk
      · exact h0
    rw [digs_step h0 h, List.length_append, List.length_singleton] at hk
    rw [digs_step h0 h]
    rcases k with _ | k
    · rw [List.getD_eq_getElem?_getD, List.getElem?_append_right (by omega), show i - (digs (n / 256)).length = 0 by omega]
      simp
    · rw [List.getD_eq_getElem?_getD, List.getElem?_append_left (by omega), ← List.getD_eq_getElem?_getD, digs_get k (n / 256) i (by omega) (by omega), Nat.div_div_eq_div_mul, Nat.pow_succ', ]

theorem bv_digit {n k i : Nat} (hn : n < 18446744073709551616) (hk : k + 1 + i = (digs n).length) :
    bv ((digs n).getD i 0) = .int .u8 (IntKind.u8.wrap ((n : Int) / 2 ^ min (8 * (k : Int)).toNat 64)) := by
  have h8 := digs_len n
  rw [digs_get k n i hn hk, bv_ofNat (by omega), IntKind.wrap_u8]
  have e : min (8 * (k : Int)).toNat 64 = 8 * k := by omega
  rw [e]
  have : ((n / 256 ^ k % 256 : Nat) : Int) = (n : Int) / (2 : Int) ^ (8 * k) % 256 := by
    rw [show (256 : Nat) ^ k = 2 ^ (8 * k) by rw [Nat.pow_mul]]
    simp
  rw [← this]
end Go.Proofs.Ytdnljmncdbcgeaa

/- A leaf's bytes, plainly. -/
namespace Go.Proofs.Ytdnljmncdbcgeaa
open Go.RowKit

/-- a leaf's bytes -/
def leafB (k : Int) (l : List UInt8) : List UInt8 := if checkN k l.length ≠ 0 then numB 0 else if k = 1 then numB 1 ++ textB l else numB k.toNat
theorem leafB_bad {k : Int} {l : List UInt8} (h : checkN k l.length ≠ 0) : leafB k l = numB 0 := by unfold leafB; rw [if_pos h]
theorem leafB_file {k : Int} {l : List UInt8} (h : checkN k l.length = 0) (hk : k = 1) : leafB k l = numB 1 ++ textB l := by unfold leafB; rw [if_neg (by simpa using h), if_pos hk]
theorem leafB_other {k : Int} {l : List UInt8} (h : checkN k l.length = 0) (hk : k ≠ 1) : leafB k l = numB k.toNat := by unfold leafB; rw [if_neg (by simpa using h), if_neg hk]
theorem leafB_len (k : Int) (l : List UInt8) : (leafB k l).length ≤ 18 + l.length := by
  have h0 := numB_len 0
  have h1 := numB_len 1
  have h2 := numB_len k.toNat
  have h3 := numB_len l.length
  unfold leafB textB
  split
  · omega
  · split
    · simp only [List.length_append]; omega
    · omega
theorem checkN_ok {k : Int} {n : Nat} (h : checkN k n = 0) : (k = 0 ∨ k = 1 ∨ k = 2) ∧ (k ≠ 1 → n = 0) ∧ n ≤ 4096 := by
  unfold checkN at h
  split at h
  · rename_i h1
    split at h
    · exact ⟨.inr (.inl h1), fun h2 => absurd h1 h2, by assumption⟩
    · simp at h
  · split at h
    · rename_i h1 h2
      split at h
      · rename_i h3
        exact ⟨h2.elim .inl (fun h => .inr (.inr h)), fun _ => h3, by omega⟩
      · simp at h
    · simp at h
/-- bytes that leaves take at most -/
def wideL (ls : List LV) : Nat := (ls.map fun o => 18 + o.x.l.length).sum
theorem wideL_take (ls : List LV) (i : Nat) (hi : i < ls.length) : (ls.take i |>.flatMap fun o => leafB o.k o.x.l).length + (18 + ls[i].x.l.length) ≤ wideL ls := by
  have h1 : ∀ cs : List LV, (cs.flatMap fun o => leafB o.k o.x.l).length ≤ wideL cs := by
    intro cs
    induction cs with
    | nil => simp [wideL]
    | cons x cs ih =>
      have := leafB_len x.k x.x.l
      simp only [wideL, List.flatMap_cons, List.length_append, List.map_cons, List.sum_cons] at ih ⊢
      omega
  have h2 := h1 (ls.take i)
  have h3 : wideL (ls.take i) + (18 + ls[i].x.l.length) ≤ wideL ls := by
    have e : ls = ls.take i ++ ls[i] :: ls.drop (i + 1) := by simp
    have e2 : wideL ls = wideL (ls.take i ++ ls[i] :: ls.drop (i + 1)) := congrArg wideL e
    rw [e2]
    simp only [wideL, List.map_append, List.map_cons, List.sum_append, List.sum_cons]
    omega
  omega
theorem wideL_len : ∀ ls : List LV, ls.length ≤ wideL ls
  | [] => by simp
  | x :: ls => by
    have := wideL_len ls
    simp only [wideL, List.map_cons, List.sum_cons, List.length_cons] at this ⊢
    omega
end Go.Proofs.Ytdnljmncdbcgeaa

/- Reading numbers, as a plain function. -/
namespace Go.Proofs.Ytdnljmncdbcgeaa
open Go.RowKit

/-- the number of bytes, highest first -/
def val (l : List UInt8) : Nat := l.foldl (fun n d => n * 256 + d.toNat) 0
/-- behind a failure -/
def failS (l : List UInt8) (f code : Int) : List UInt8 × Int := if f = 0 ∧ code ≠ 0 then ([], code) else (l, f)
/-- a number is read: the number, what is left, the fault -/
def readS (l : List UInt8) (f : Int) (most : Nat) : Nat × List UInt8 × Int :=
  if f ≠ 0 then (0, l, f)
  else match l with
    | [] => (0, [], 11)
    | c :: r =>
      if 8 < c.toNat then (0, [], 10)
      else if r.length < c.toNat then (0, [], 11)
      else if 0 < c.toNat ∧ r.getD 0 0 = 0 then (0, [], 10)
      else if most < val (r.take c.toNat) then (0, [], 13)
      else (val (r.take c.toNat), r.drop c.toNat, 0)

theorem val_snoc (l : List UInt8) (d : UInt8) : val (l ++ [d]) = val l * 256 + d.toNat := by unfold val; rw [List.foldl_append]; rfl
theorem val_aux : ∀ (l : List UInt8) (n : Nat), l.foldl (fun n d => n * 256 + d.toNat) n < (n + 1) * 256 ^ l.length
  | [], n => by simp
  | d :: l, n => by
    have h := val_aux l (n * 256 + d.toNat)
    have hd := d.toNat_lt
    rw [List.foldl_cons, List.length_cons, Nat.pow_succ]
    refine Nat.lt_of_lt_of_le h ?_
    rw [Nat.mul_comm (256 ^ l.length) 256, ← Nat.mul_assoc]
    exact Nat.mul_le_mul_right _ (by omega)
theorem val_lt (l : List UInt8) : val l < 256 ^ l.length := by simpa [val] using val_aux l 0
theorem val_lt64 {l : List UInt8} (h : l.length ≤ 8) : val l < 18446744073709551616 := Nat.lt_of_lt_of_le (val_lt l) (pow_le8 h)
theorem val_take {l : List UInt8} {i : Nat} (hi : i < l.length) : val (l.take (i + 1)) = val (l.take i) * 256 + (l.getD i 0).toNat := by
  rw [List.take_succ_eq_append_getElem hi, val_snoc, List.getD_eq_getElem?_getD, List.getElem?_eq_getElem hi]
  rfl
theorem or_byte {n : Nat} {d : UInt8} (h : n < 256 ^ 7) : bits .or .u64 ((n : Int) * 256) (d.toNat : Int) = ((n * 256 + d.toNat : Nat) : Int) := by
  have hd := d.toNat_lt
  rw [u64_or _ _ (by omega) (by omega) (by omega) (by omega)]
  have e : ((n : Int) * 256).toNat = n * 256 := by omega
  rw [e, Int.toNat_natCast, nat_join 8 (n * 256) d.toNat (by omega) (by omega)]
end Go.Proofs.Ytdnljmncdbcgeaa

/- tenderref01: Num, Text, Same. -/
namespace Go.Proofs.Ytdnljmncdbcgeaa
open Go.RowKit

end Go.Proofs.Ytdnljmncdbcgeaa

/- grain.Pen: num, Num, Truth, Text, Bytes. -/
namespace Go.Proofs.Ytdnljmncdbcgeaa
open Go.RowKit

end Go.Proofs.Ytdnljmncdbcgeaa

/- grain.Pen: Num, Truth, Text, Bytes; bytes.Clone. -/
namespace Go.Proofs.Ytdnljmncdbcgeaa
open Go.RowKit

theorem flat_take {α : Type} {f : α → List UInt8} {L l : List UInt8} {ns : List α} {i : Nat} (hi : i < ns.length) (h : L = l ++ (ns.take i).flatMap f) : L ++ f ns[i] = l ++ (ns.take (i + 1)).flatMap f := by
  rw [h, List.take_succ_eq_append_getElem hi, List.flatMap_append, List.append_assoc]
  simp
theorem flat9 : ∀ (ns : List Nat), (ns.flatMap numB).length ≤ 9 * ns.length
  | [] => by simp
  | n :: ns => by
    have h1 := numB_len n
    have h2 := flat9 ns
    simp only [List.flatMap_cons, List.length_append, List.length_cons]
    omega
theorem flat9t (ns : List Nat) (i : Nat) : ((ns.take i).flatMap numB).length ≤ 9 * i := by
  have h := flat9 (ns.take i)
  have h2 := List.length_take_le i ns
  omega

end Go.Proofs.Ytdnljmncdbcgeaa

/- grain.Eye: Fail, take. -/
namespace Go.Proofs.Ytdnljmncdbcgeaa
open Go.RowKit

/-- The eye at block eb (of struct type T) has the bytes l and the fault f; the bytes lie in Z. -/
def EyeAt (w : World) (T eb : Nat) (Z : Nat → Prop) (A : Option Addr) (c : Nat) (l : List UInt8) (f : Int) : Prop :=
  Blk w eb T #[.slice A l.length c, .int .i64 f] ∧ By w Z A l ∧ l.length ≤ c ∧ c ≤ maxLen
/-- what a method leaves: only the eye has turned -/
structure EyeTo (w : World) (T eb : Nat) (Z : Nat → Prop) (l : List UInt8) (f : Int) (w' : World) : Prop where
  at_ : ∃ A c, EyeAt w' T eb Z A c l f
  fr : Fr (fun k => k = eb) w w'

theorem EyeAt.c0 {w : World} {T eb : Nat} {Z : Nat → Prop} {A : Option Addr} {c : Nat} {l : List UInt8} {f : Int} (h : EyeAt w T eb Z A c l f) : w.cell? ⟨eb, 0, none⟩ = some (.slice A l.length c) := h.1.cell 0
theorem EyeAt.c1 {w : World} {T eb : Nat} {Z : Nat → Prop} {A : Option Addr} {c : Nat} {l : List UInt8} {f : Int} (h : EyeAt w T eb Z A c l f) : w.cell? ⟨eb, 1, none⟩ = some (.int .i64 f) := h.1.cell 1
theorem EyeAt.f0 {w : World} {T eb : Nat} {Z : Nat → Prop} {A : Option Addr} {c : Nat} {l : List UInt8} {f : Int} (h : EyeAt w T eb Z A c l f) : w.frozen? ⟨eb, 0, none⟩ = false := h.1.frozen 0
theorem EyeAt.f1 {w : World} {T eb : Nat} {Z : Nat → Prop} {A : Option Addr} {c : Nat} {l : List UInt8} {f : Int} (h : EyeAt w T eb Z A c l f) : w.frozen? ⟨eb, 1, none⟩ = false := h.1.frozen 1
theorem EyeAt.to {w : World} {T eb : Nat} {Z : Nat → Prop} {A : Option Addr} {c : Nat} {l : List UInt8} {f : Int} (h : EyeAt w T eb Z A c l f) : EyeTo w T eb Z l f w := ⟨⟨A, c, h⟩, Fr.refl _ _⟩
theorem EyeAt.below {w w' : World} {T eb : Nat} {Z : Nat → Prop} {A : Option Addr} {c : Nat} {l : List UInt8} {f : Int} (h : EyeAt w T eb Z A c l f) (k : Below w.heap.size w w') : EyeAt w' T eb Z A c l f := ⟨h.1.below k, h.2.1.below k, h.2.2⟩
theorem EyeAt.fr {w w' : World} {T eb : Nat} {Z S : Nat → Prop} {A : Option Addr} {c : Nat} {l : List UInt8} {f : Int} (h : EyeAt w T eb Z A c l f) (k : Fr S w w') (h1 : ¬ S eb) (h2 : ∀ b, b < w.heap.size → Z b → ¬ S b) : EyeAt w' T eb Z A c l f := ⟨h.1.fr k h1, h.2.1.fr k h2, h.2.2⟩
theorem EyeTo.trans {a b c : World} {T eb : Nat} {Z : Nat → Prop} {l l' : List UInt8} {f f' : Int} (h : EyeTo a T eb Z l f b) (k : EyeTo b T eb Z l' f' c) : EyeTo a T eb Z l' f' c := ⟨k.at_, h.fr.trans k.fr (fun _ _ h => h)⟩
theorem EyeTo.then_ {a b c : World} {T eb : Nat} {Z : Nat → Prop} {l : List UInt8} {f : Int} (h : EyeTo a T eb Z l f b) (k : Below b.heap.size b c) : EyeTo a T eb Z l f c := by
  obtain ⟨A, c', h1⟩ := h.at_
  exact ⟨⟨A, c', h1.below k⟩, h.fr.then_below k⟩
/-- both cells set anew -/
theorem EyeAt.failed {w : World} {T eb : Nat} {Z : Nat → Prop} {A : Option Addr} {c : Nat} {l : List UInt8} {f : Int} (h : EyeAt w T eb Z A c l f) (code : Int) :
    EyeTo w T eb Z [] code ((w.setCell ⟨eb, 0, none⟩ (.slice none 0 0)).setCell ⟨eb, 1, none⟩ (.int .i64 code)) ∧ EyeTo w T eb Z [] code ((w.setCell ⟨eb, 1, none⟩ (.int .i64 code)).setCell ⟨eb, 0, none⟩ (.slice none 0 0)) := by
  constructor
  · refine ⟨⟨none, 0, ?_, Rd.nil, by simp, by simp [maxLen]⟩, ((Fr.refl (fun k => k = eb) w).setAt eb _ rfl _).setAt eb _ rfl _⟩
    have := (h.1.set_ 0 (.slice none 0 0)).set_ 1 (.int .i64 code)
    simpa using this
  · refine ⟨⟨none, 0, ?_, Rd.nil, by simp, by simp [maxLen]⟩, ((Fr.refl (fun k => k = eb) w).setAt eb _ rfl _).setAt eb _ rfl _⟩
    have := (h.1.set_ 1 (.int .i64 code)).set_ 0 (.slice none 0 0)
    simpa using this

set_option maxHeartbeats 400000 in
theorem fail_any (eb : Nat) (Z : Nat → Prop) (A : Option Addr) (c : Nat) (l : List UInt8) (f code : Int) (w : World) (h : EyeAt w 200 eb Z A c l f) :
    Calls Try.prog 90 #[.pointer (some ⟨eb, 0, none⟩), .int .i64 code] w fun e w' => e = .returned (.tuple #[]) ∧ EyeTo w 200 eb Z (failS l f code).1 (failS l f code).2 w' := by
  have c0 := h.c0
  have c1 := h.c1
  have f0 := h.f0
  have f1 := h.f1
  by_cases h1 : f = 0
  · by_cases h2 : code = 0
    · have e1 := Lib.hid (show failS l f code = (l, f) by unfold failS; rw [if_neg (by omega)])
      subst h1 h2
      go_enter Try.func90, Try.ntmps90
      go_wp2_with fail
      go_end0
      rw [e1.out]
      exact ⟨rfl, h.to⟩
    · have e1 := Lib.hid (show failS l f code = ([], code) by unfold failS; rw [if_pos ⟨h1, h2⟩])
      have h2b : (code != 0) = true := by simpa using h2
      subst h1
      go_enter Try.func90, Try.ntmps90
      go_wp2_with fail
      go_end0
      rw [e1.out]
      exact ⟨rfl, (h.failed code).1⟩
  · have e1 := Lib.hid (show failS l f code = (l, f) by unfold failS; rw [if_neg (by omega)])
    have h1b : (f == 0) = false := by simpa using h1
    go_enter Try.func90, Try.ntmps90
    go_wp2_with fail
    go_end0
    rw [e1.out]
    exact ⟨rfl, h.to⟩

set_option maxHeartbeats 400000 in
theorem failR_any (eb : Nat) (Z : Nat → Prop) (A : Option Addr) (c : Nat) (l : List UInt8) (f code : Int) (w : World) (h : EyeAt w 166 eb Z A c l f) :
    Calls Try.prog 95 #[.pointer (some ⟨eb, 0, none⟩), .int .i64 code] w fun e w' => e = .returned (.tuple #[]) ∧ EyeTo w 166 eb Z (failS l f code).1 (failS l f code).2 w' := by
  have c0 := h.c0
  have c1 := h.c1
  have f0 := h.f0
  have f1 := h.f1
  by_cases h1 : f = 0
  · by_cases h2 : code = 0
    · have e1 := Lib.hid (show failS l f code = (l, f) by unfold failS; rw [if_neg (by omega)])
      subst h1 h2
      go_enter Try.func95, Try.ntmps95
      go_wp2_with fail
      go_end0
      rw [e1.out]
      exact ⟨rfl, h.to⟩
    · have e1 := Lib.hid (show failS l f code = ([], code) by unfold failS; rw [if_pos ⟨h1, h2⟩])
      have h2b : (code != 0) = true := by simpa using h2
      subst h1
      go_enter Try.func95, Try.ntmps95
      go_wp2_with fail
      go_end0
      rw [e1.out]
      exact ⟨rfl, (h.failed code).2⟩
  · have e1 := Lib.hid (show failS l f code = (l, f) by unfold failS; rw [if_neg (by omega)])
    have h1b : (f == 0) = false := by simpa using h1
    go_enter Try.func95, Try.ntmps95
    go_wp2_with fail
    go_end0
    rw [e1.out]
    exact ⟨rfl, h.to⟩


theorem EyeAt.bounds {w : World} {T eb : Nat} {Z : Nat → Prop} {A : Option Addr} {c : Nat} {l : List UInt8} {f : Int} (h : EyeAt w T eb Z A c l f) : l.length ≤ c ∧ c ≤ 9223372036854775807 := ⟨h.2.2.1, h.2.2.2⟩

theorem EyeAt.cut {w : World} {T eb : Nat} {Z : Nat → Prop} {A : Option Addr} {c : Nat} {l : List UInt8} {f : Int} (h : EyeAt w T eb Z A c l f) {n : Nat} (hn : n ≤ l.length) (hz : ¬ Z eb) :
    EyeTo w T eb Z (l.drop n) f (w.setCell ⟨eb, 0, none⟩ (.slice (if c = n then A else A.map fun x => x.add n) (l.length - n) (c - n))) := by
  have hf : Fr (fun k => k = eb) w (w.setCell ⟨eb, 0, none⟩ (.slice (if c = n then A else A.map fun x => x.add n) (l.length - n) (c - n))) := (Fr.refl (fun k => k = eb) w).setAt eb _ rfl _
  have hd := Rd.drop h.2.1 hn h.2.2.1
  rw [← List.map_drop, Nat.mul_one, ← List.length_drop] at hd
  refine ⟨⟨_, c - n, ?_, hd.fr hf (by rintro b _ hb rfl; exact hz hb), by rw [List.length_drop]; have := h.2.2.1; omega, by have := h.2.2.2; omega⟩, hf⟩
  have := h.1.set_ 0 (.slice (if c = n then A else A.map fun x => x.add n) (l.length - n) (c - n))
  rw [List.length_drop]
  simpa using this

set_option maxHeartbeats 400000 in
theorem take_in (eb : Nat) (Z : Nat → Prop) (A : Option Addr) (c : Nat) (l : List UInt8) (f : Int) (n : Nat) (w : World) (h : EyeAt w 200 eb Z A c l f) (hz : ¬ Z eb) (hn : n ≤ l.length) :
    Calls Try.prog 134 #[.pointer (some ⟨eb, 0, none⟩), .int .i64 n] w fun e w' => ∃ c', e = .returned (.slice A n c') ∧ n ≤ c' ∧ c' ≤ maxLen ∧ EyeTo w 200 eb Z (l.drop n) f w' := by
  have c0 := h.c0
  have f0 := h.f0
  have hb := h.bounds
  have hm : maxLen = 9223372036854775807 := rfl
  have HM := Lib.hid hm
  clear hm
  have H := Lib.hid h
  clear h
  by_cases hcn : c = n
  · subst hcn
    go_enter Try.func134, Try.ntmps134
    go_wp2_with fail
    go_ret
    have hc := H.out.cut hn hz
    rw [if_pos rfl, Nat.sub_self, show l.length - c = 0 by omega] at hc
    exact ⟨c, rfl, Nat.le_refl _, by rw [HM.out]; omega, hc⟩
  · go_enter Try.func134, Try.ntmps134
    go_wp2_with fail
    go_ret
    have hc := H.out.cut hn hz
    rw [if_neg hcn] at hc
    exact ⟨c, rfl, by omega, by rw [HM.out]; omega, hc⟩

set_option maxHeartbeats 400000 in
theorem take_out (eb : Nat) (Z : Nat → Prop) (A : Option Addr) (c : Nat) (l : List UInt8) (n : Nat) (w : World) (h : EyeAt w 200 eb Z A c l 0) (hn : l.length < n) :
    Calls Try.prog 134 #[.pointer (some ⟨eb, 0, none⟩), .int .i64 n] w fun e w' => e = .returned (.slice none 0 0) ∧ EyeTo w 200 eb Z [] 11 w' := by
  have c0 := h.c0
  go_enter Try.func134, Try.ntmps134
  go_wp2_with fail
  refine (fail_any eb Z A c l 0 11 w h).mono ?_
  rintro e w1 ⟨rfl, h1⟩
  go_wp2_with fail
  go_ret
  exact ⟨rfl, h1⟩
end Go.Proofs.Ytdnljmncdbcgeaa

/- grain.Eye.Num. -/
namespace Go.Proofs.Ytdnljmncdbcgeaa
open Go.RowKit

theorem readS_bad {l : List UInt8} {f : Int} {most : Nat} (h : f ≠ 0) : readS l f most = (0, l, f) := by unfold readS; rw [if_pos h]
theorem readS_nil {most : Nat} : readS [] 0 most = (0, [], 11) := rfl
theorem readS_wide {x : UInt8} {r : List UInt8} {most : Nat} (h : 8 < x.toNat) : readS (x :: r) 0 most = (0, [], 10) := by unfold readS; rw [if_neg (by simp)]; dsimp only; rw [if_pos h]
theorem readS_short {x : UInt8} {r : List UInt8} {most : Nat} (h : ¬ 8 < x.toNat) (h2 : r.length < x.toNat) : readS (x :: r) 0 most = (0, [], 11) := by
  unfold readS; rw [if_neg (by simp)]; dsimp only; rw [if_neg h, if_pos h2]
theorem readS_zero {x : UInt8} {r : List UInt8} {most : Nat} (h : ¬ 8 < x.toNat) (h2 : ¬ r.length < x.toNat) (h3 : 0 < x.toNat ∧ r.getD 0 0 = 0) : readS (x :: r) 0 most = (0, [], 10) := by
  unfold readS; rw [if_neg (by simp)]; dsimp only; rw [if_neg h, if_neg h2, if_pos h3]
theorem readS_long {x : UInt8} {r : List UInt8} {most : Nat} (h : ¬ 8 < x.toNat) (h2 : ¬ r.length < x.toNat) (h3 : ¬ (0 < x.toNat ∧ r.getD 0 0 = 0)) (h4 : most < val (r.take x.toNat)) : readS (x :: r) 0 most = (0, [], 13) := by
  unfold readS; rw [if_neg (by simp)]; dsimp only; rw [if_neg h, if_neg h2, if_neg h3, if_pos h4]
theorem readS_ok {x : UInt8} {r : List UInt8} {most : Nat} (h : ¬ 8 < x.toNat) (h2 : ¬ r.length < x.toNat) (h3 : ¬ (0 < x.toNat ∧ r.getD 0 0 = 0)) (h4 : ¬ most < val (r.take x.toNat)) : readS (x :: r) 0 most = (val (r.take x.toNat), r.drop x.toNat, 0) := by
  unfold readS; rw [if_neg (by simp)]; dsimp only; rw [if_neg h, if_neg h2, if_neg h3, if_neg h4]

/-- what a read leaves -/
def NumTo (w : World) (T eb : Nat) (Z : Nat → Prop) (r : Nat × List UInt8 × Int) (e : Ending) (w' : World) : Prop := e = .returned (.int .u64 (r.1 : Int)) ∧ EyeTo w T eb Z r.2.1 r.2.2 w'

theorem byte_at {w w1 : World} {T eb : Nat} {Z : Nat → Prop} {A : Option Addr} {c : Nat} {x : UInt8} {r l1 : List UInt8} {f f1 : Int} (h : EyeAt w T eb Z A c (x :: r) f) (hz : ¬ Z eb) (h1 : EyeTo w T eb Z l1 f1 w1) :
    ∃ b off, A = some ⟨b, off, none⟩ ∧ w1.cell? ⟨b, off, none⟩ = some (.int .u8 (x.toNat : Int)) := by
  have := h.2.1.fr h1.fr (by rintro b _ hb rfl; exact hz hb)
  obtain ⟨b, off, e, _, _, hc⟩ := Rd.atm this (k := 0) (by simp)
  exact ⟨b, off, e, hc⟩

theorem digit0 {r : List UInt8} {k : Nat} (h : r.getD 0 0 ≠ 0) (hk : 0 < (r.take k).length) : (((r.take k)[0]'hk).toNat : Int) ≠ 0 := by
  rw [List.getElem_take]
  rcases r with _ | ⟨y, r⟩
  · simp at hk
  · simp at h ⊢
    intro e
    exact h (UInt8.toNat_inj.1 (by simpa using e))

theorem digit00 {r : List UInt8} {k : Nat} (h : r.getD 0 0 = 0) (hk : 0 < (r.take k).length) : (((r.take k)[0]'hk).toNat : Int) = 0 := by
  rw [List.getElem_take]
  rcases r with _ | ⟨y, r⟩
  · simp at hk
  · simp at h ⊢
    rw [h]; rfl

set_option maxHeartbeats 400000 in
theorem eyeNum_bad (eb : Nat) (Z : Nat → Prop) (A : Option Addr) (c : Nat) (l : List UInt8) (f : Int) (most : Nat) (w : World) (h : EyeAt w 200 eb Z A c l f) (hf : f ≠ 0) :
    Calls Try.prog 86 #[.pointer (some ⟨eb, 0, none⟩), .int .u64 most] w (NumTo w 200 eb Z (readS l f most)) := by
  have c1 := h.c1
  rw [readS_bad hf]
  have hfb : (f != 0) = true := by simpa using hf
  go_enter Try.func86, Try.ntmps86
  go_wp2_with fail
  go_ret
  exact ⟨rfl, h.to⟩

set_option maxHeartbeats 400000 in
theorem eyeNum_none (eb : Nat) (Z : Nat → Prop) (A : Option Addr) (c : Nat) (most : Nat) (w : World) (h : EyeAt w 200 eb Z A c [] 0) :
    Calls Try.prog 86 #[.pointer (some ⟨eb, 0, none⟩), .int .u64 most] w (NumTo w 200 eb Z (readS [] 0 most)) := by
  have c1 := h.c1
  rw [readS_nil]
  go_enter Try.func86, Try.ntmps86
  go_wp2_with fail
  refine (take_out eb Z A c [] 1 w h (by simp)).mono ?_
  rintro e w1 ⟨rfl, h1⟩
  go_wp2_with fail
  go_ret
  exact ⟨rfl, h1⟩

set_option maxHeartbeats 400000 in
theorem eyeNum_wide (eb : Nat) (Z : Nat → Prop) (A : Option Addr) (c : Nat) (x : UInt8) (r : List UInt8) (most : Nat) (w : World) (h : EyeAt w 200 eb Z A c (x :: r) 0) (hz : ¬ Z eb) (hx : 8 < x.toNat) :
    Calls Try.prog 86 #[.pointer (some ⟨eb, 0, none⟩), .int .u64 most] w (NumTo w 200 eb Z (readS (x :: r) 0 most)) := by
  have c1 := h.c1
  rw [readS_wide hx]
  go_enter Try.func86, Try.ntmps86
  go_wp2_with fail
  refine (take_in eb Z A c (x :: r) 0 1 w h hz (by simp)).mono ?_
  rintro e w1 ⟨c2, rfl, hc2, hm2, h1⟩
  replace h1 : EyeTo w 200 eb Z r 0 w1 := h1
  obtain ⟨b, off, rfl, hcell⟩ := byte_at h hz h1
  obtain ⟨A1, ca1, ha1⟩ := h1.at_
  go_wp2_with fail
  refine (fail_any eb Z A1 ca1 r 0 10 w1 ha1).mono ?_
  rintro e w2 ⟨rfl, h2⟩
  go_wp2_with fail
  go_ret
  exact ⟨rfl, h1.trans h2⟩

set_option maxHeartbeats 400000 in
theorem eyeNum_short (eb : Nat) (Z : Nat → Prop) (A : Option Addr) (c : Nat) (x : UInt8) (r : List UInt8) (most : Nat) (w : World) (h : EyeAt w 200 eb Z A c (x :: r) 0) (hz : ¬ Z eb) (hx : ¬ 8 < x.toNat) (hr : r.length < x.toNat) :
    Calls Try.prog 86 #[.pointer (some ⟨eb, 0, none⟩), .int .u64 most] w (NumTo w 200 eb Z (readS (x :: r) 0 most)) := by
  have c1 := h.c1
  rw [readS_short hx hr]
  go_enter Try.func86, Try.ntmps86
  go_wp2_with fail
  refine (take_in eb Z A c (x :: r) 0 1 w h hz (by simp)).mono ?_
  rintro e w1 ⟨c2, rfl, hc2, hm2, h1⟩
  replace h1 : EyeTo w 200 eb Z r 0 w1 := h1
  obtain ⟨b, off, rfl, hcell⟩ := byte_at h hz h1
  obtain ⟨A1, ca1, ha1⟩ := h1.at_
  go_wp2_with fail
  refine (take_out eb Z A1 ca1 r x.toNat w1 ha1 hr).mono ?_
  rintro e w2 ⟨rfl, h2⟩
  obtain ⟨A2, ca2, ha2⟩ := h2.at_
  have c12 := ha2.c1
  go_wp2_with fail
  go_loop [4, 48] (fun nv iv => nv = .int .u64 0 ∧ iv = .int .i64 0) (fun _ _ => 0)
  case atStart => exact ⟨rfl, rfl⟩
  case round =>
    obtain ⟨rfl, rfl⟩ := hrel
    go_wp2_with fail
    go_ret
    exact ⟨rfl, h1.trans h2⟩

set_option maxHeartbeats 300000 in
theorem eyeNum_ok0 (eb : Nat) (Z : Nat → Prop) (A : Option Addr) (c : Nat) (x : UInt8) (r : List UInt8) (most : Nat) (w : World) (h : EyeAt w 200 eb Z A c (x :: r) 0) (hz : ¬ Z eb) (hx : ¬ 8 < x.toNat) (hr : ¬ r.length < x.toNat)
    (h0 : Hid (x.toNat = 0)) :
    Calls Try.prog 86 #[.pointer (some ⟨eb, 0, none⟩), .int .u64 most] w (NumTo w 200 eb Z (readS (x :: r) 0 most)) := by
  have c1 := h.c1
  have hdl : (r.take x.toNat).length = x.toNat := by rw [List.length_take]; omega
  go_enter Try.func86, Try.ntmps86
  go_wp2_with fail
  refine (take_in eb Z A c (x :: r) 0 1 w h hz (by simp)).mono ?_
  rintro e w1 ⟨c2, rfl, hc2, hm2, h1⟩
  replace h1 : EyeTo w 200 eb Z r 0 w1 := h1
  obtain ⟨b, off, rfl, hcell⟩ := byte_at h hz h1
  obtain ⟨A1, ca1, ha1⟩ := h1.at_
  go_wp2_with fail
  refine (take_in eb Z A1 ca1 r 0 x.toNat w1 ha1 hz (by omega)).mono ?_
  rintro e w2 ⟨c3, rfl, hc3, hm3, h2⟩
  have hD : Rd w2 Z 1 A1 x.toNat ((r.take x.toNat).map bv) := by
    have := (Rd.take ha1.2.1 (k := x.toNat) (by omega)).fr h2.fr (by rintro b _ hb rfl; exact hz hb)
    rw [Nat.mul_one, ← List.map_take] at this
    exact this
  have h12 := h1.trans h2
  have HD := Lib.hid hdl
  clear hdl
  have h0b : decide (0 < x.toNat) = false := by have := h0.out; simp; omega
  go_wp2_with fail
  go_loop [4, 48] (fun nv iv => ∃ i : Nat, i ≤ x.toNat ∧ iv = .int .i64 (i : Int) ∧ nv = .int .u64 (val ((r.take x.toNat).take i) : Int)) (fun _ iv => x.toNat - (intOf iv).toNat)
  case atStart => exact ⟨0, Nat.zero_le _, rfl, rfl⟩
  case round =>
    obtain ⟨i, hi, rfl, rfl⟩ := hrel
    by_cases hlt : i < x.toNat
    · obtain ⟨b2, off2, eA, _, _, hc⟩ := hD.atm (k := i) (by rw [HD.out]; exact hlt)
      subst eA
      have hv := val_take (l := r.take x.toNat) (i := i) (by rw [HD.out]; exact hlt)
      have hb7 : val ((r.take x.toNat).take i) < 256 ^ 7 := Nat.lt_of_lt_of_le (val_lt _) (Nat.pow_le_pow_right (by decide) (by rw [List.length_take, HD.out]; omega))
      have hgd : (r.take x.toNat).getD i 0 = (r.take x.toNat)[i]'(by rw [HD.out]; exact hlt) := by rw [List.getD_eq_getElem?_getD, List.getElem?_eq_getElem (by rw [HD.out]; exact hlt)]; rfl
      rw [hgd] at hv
      generalize (r.take x.toNat)[i]'(by rw [HD.out]; exact hlt) = d at hc hv
      have HV := Lib.hid hv
      clear hv hgd
      unfold bv at hc
      generalize val ((r.take x.toNat).take i) = m at *
      have hor := or_byte (n := m) (d := d) hb7
      have hm56 : m < 72057594037927936 := hb7
      clear hb7
      have hd8 := d.toNat_lt
      go_wp2_with fail
      go_round
      case rel => exact ⟨i + 1, hlt, by go_num, by rw [HV.out]; go_num⟩
      case measure => simp [intOf]; omega
    · have e : i = x.toNat := by omega
      subst e
      rw [show ((r.take x.toNat).take x.toNat) = r.take x.toNat by rw [List.take_take]; simp]
      obtain ⟨A3, ca3, ha3⟩ := h2.at_
      have c13 := ha3.c1
      have hvl := val_lt64 (l := r.take x.toNat) (by rw [HD.out]; omega)
      by_cases hm : most < val (r.take x.toNat)
      · go_wp2_with fail
        refine (fail_any eb Z A3 ca3 (r.drop x.toNat) 0 13 _ ha3).mono ?_
        rintro e w9 ⟨rfl, h9⟩
        replace h9 : EyeTo w2 200 eb Z [] 13 w9 := h9
        obtain ⟨A4, ca4, ha4⟩ := h9.at_
        have c14 := ha4.c1
        go_wp2_with fail
        go_ret
        rw [readS_long hx hr (by have := h0.out; omega) hm]
        exact ⟨rfl, h12.trans h9⟩
      · go_wp2_with fail
        go_ret
        rw [readS_ok hx hr (by have := h0.out; omega) hm]
        exact ⟨rfl, h12⟩

set_option maxHeartbeats 300000 in
theorem eyeNum_ok1 (eb : Nat) (Z : Nat → Prop) (A : Option Addr) (c : Nat) (x : UInt8) (r : List UInt8) (most : Nat) (w : World) (h : EyeAt w 200 eb Z A c (x :: r) 0) (hz : ¬ Z eb) (hx : ¬ 8 < x.toNat) (hr : ¬ r.length < x.toNat)
    (h0 : 0 < x.toNat) (hr0 : r.getD 0 0 ≠ 0) :
    Calls Try.prog 86 #[.pointer (some ⟨eb, 0, none⟩), .int .u64 most] w (NumTo w 200 eb Z (readS (x :: r) 0 most)) := by
  have c1 := h.c1
  have hdl : (r.take x.toNat).length = x.toNat := by rw [List.length_take]; omega
  have hcl : ¬ (0 < x.toNat ∧ r.getD 0 0 = 0) := fun hh => hr0 hh.2
  have HCL := Lib.hid hcl
  clear hcl
  go_enter Try.func86, Try.ntmps86
  go_wp2_with fail
  refine (take_in eb Z A c (x :: r) 0 1 w h hz (by simp)).mono ?_
  rintro e w1 ⟨c2, rfl, hc2, hm2, h1⟩
  replace h1 : EyeTo w 200 eb Z r 0 w1 := h1
  obtain ⟨b, off, rfl, hcell⟩ := byte_at h hz h1
  obtain ⟨A1, ca1, ha1⟩ := h1.at_
  go_wp2_with fail
  refine (take_in eb Z A1 ca1 r 0 x.toNat w1 ha1 hz (by omega)).mono ?_
  rintro e w2 ⟨c3, rfl, hc3, hm3, h2⟩
  have hD : Rd w2 Z 1 A1 x.toNat ((r.take x.toNat).map bv) := by
    have := (Rd.take ha1.2.1 (k := x.toNat) (by omega)).fr h2.fr (by rintro b _ hb rfl; exact hz hb)
    rw [Nat.mul_one, ← List.map_take] at this
    exact this
  have h12 := h1.trans h2
  have HD := Lib.hid hdl
  clear hdl
  obtain ⟨b1, off1, rfl, _, _, hc0⟩ := hD.atm (k := 0) (by rw [HD.out]; exact h0)
  have hr0b : (((r.take x.toNat)[0]'(by rw [HD.out]; exact h0)).toNat : Int) ≠ 0 := digit0 hr0 (by rw [HD.out]; exact h0)
  generalize (r.take x.toNat)[0]'(by rw [HD.out]; exact h0) = d0 at hc0 hr0b
  replace hc0 : w2.cell? ⟨b1, off1, none⟩ = some (.int .u8 (d0.toNat : Int)) := hc0
  have hr0c : ((d0.toNat : Int) == 0) = false := by simpa using hr0b
  clear hr0b hr0
  go_wp2_with fail
  go_loop [4, 48] (fun nv iv => ∃ i : Nat, i ≤ x.toNat ∧ iv = .int .i64 (i : Int) ∧ nv = .int .u64 (val ((r.take x.toNat).take i) : Int)) (fun _ iv => x.toNat - (intOf iv).toNat)
  case atStart => exact ⟨0, Nat.zero_le _, rfl, rfl⟩
  case round =>
    obtain ⟨i, hi, rfl, rfl⟩ := hrel
    by_cases hlt : i < x.toNat
    · obtain ⟨b2, off2, eA, _, _, hc⟩ := hD.atm (k := i) (by rw [HD.out]; exact hlt)
      obtain ⟨rfl, rfl⟩ : b1 = b2 ∧ off1 = off2 := by simpa using eA
      have hv := val_take (l := r.take x.toNat) (i := i) (by rw [HD.out]; exact hlt)
      have hb7 : val ((r.take x.toNat).take i) < 256 ^ 7 := Nat.lt_of_lt_of_le (val_lt _) (Nat.pow_le_pow_right (by decide) (by rw [List.length_take, HD.out]; omega))
      have hgd : (r.take x.toNat).getD i 0 = (r.take x.toNat)[i]'(by rw [HD.out]; exact hlt) := by rw [List.getD_eq_getElem?_getD, List.getElem?_eq_getElem (by rw [HD.out]; exact hlt)]; rfl
      rw [hgd] at hv
      generalize (r.take x.toNat)[i]'(by rw [HD.out]; exact hlt) = d at hc hv
      have HV := Lib.hid hv
      clear hv hgd
      unfold bv at hc
      generalize val ((r.take x.toNat).take i) = m at *
      have hor := or_byte (n := m) (d := d) hb7
      have hm56 : m < 72057594037927936 := hb7
      clear hb7
      have hd8 := d.toNat_lt
      go_wp2_with fail
      go_round
      case rel => exact ⟨i + 1, hlt, by go_num, by rw [HV.out]; go_num⟩
      case measure => simp [intOf]; omega
    · have e : i = x.toNat := by omega
      subst e
      rw [show ((r.take x.toNat).take x.toNat) = r.take x.toNat by rw [List.take_take]; simp]
      obtain ⟨A3, ca3, ha3⟩ := h2.at_
      have c13 := ha3.c1
      have hvl := val_lt64 (l := r.take x.toNat) (by rw [HD.out]; omega)
      by_cases hm : most < val (r.take x.toNat)
      · go_wp2_with fail
        refine (fail_any eb Z A3 ca3 (r.drop x.toNat) 0 13 _ ha3).mono ?_
        rintro e w9 ⟨rfl, h9⟩
        replace h9 : EyeTo w2 200 eb Z [] 13 w9 := h9
        obtain ⟨A4, ca4, ha4⟩ := h9.at_
        have c14 := ha4.c1
        go_wp2_with fail
        go_ret
        rw [readS_long hx hr HCL.out hm]
        exact ⟨rfl, h12.trans h9⟩
      · go_wp2_with fail
        go_ret
        rw [readS_ok hx hr HCL.out hm]
        exact ⟨rfl, h12⟩

set_option maxHeartbeats 300000 in
theorem eyeNum_zero (eb : Nat) (Z : Nat → Prop) (A : Option Addr) (c : Nat) (x : UInt8) (r : List UInt8) (most : Nat) (w : World) (h : EyeAt w 200 eb Z A c (x :: r) 0) (hz : ¬ Z eb) (hx : ¬ 8 < x.toNat) (hr : ¬ r.length < x.toNat)
    (h0 : 0 < x.toNat) (hr0 : r.getD 0 0 = 0) :
    Calls Try.prog 86 #[.pointer (some ⟨eb, 0, none⟩), .int .u64 most] w (NumTo w 200 eb Z (readS (x :: r) 0 most)) := by
  have c1 := h.c1
  have hdl : (r.take x.toNat).length = x.toNat := by rw [List.length_take]; omega
  have hcl : 0 < x.toNat ∧ r.getD 0 0 = 0 := ⟨h0, hr0⟩
  have HCL := Lib.hid hcl
  clear hcl
  go_enter Try.func86, Try.ntmps86
  go_wp2_with fail
  refine (take_in eb Z A c (x :: r) 0 1 w h hz (by simp)).mono ?_
  rintro e w1 ⟨c2, rfl, hc2, hm2, h1⟩
  replace h1 : EyeTo w 200 eb Z r 0 w1 := h1
  obtain ⟨b, off, rfl, hcell⟩ := byte_at h hz h1
  obtain ⟨A1, ca1, ha1⟩ := h1.at_
  go_wp2_with fail
  refine (take_in eb Z A1 ca1 r 0 x.toNat w1 ha1 hz (by omega)).mono ?_
  rintro e w2 ⟨c3, rfl, hc3, hm3, h2⟩
  have hD : Rd w2 Z 1 A1 x.toNat ((r.take x.toNat).map bv) := by
    have := (Rd.take ha1.2.1 (k := x.toNat) (by omega)).fr h2.fr (by rintro b _ hb rfl; exact hz hb)
    rw [Nat.mul_one, ← List.map_take] at this
    exact this
  have h12 := h1.trans h2
  have HD := Lib.hid hdl
  clear hdl
  obtain ⟨b1, off1, rfl, _, _, hc0⟩ := hD.atm (k := 0) (by rw [HD.out]; exact h0)
  have hr0b : (((r.take x.toNat)[0]'(by rw [HD.out]; exact h0)).toNat : Int) = 0 := digit00 hr0 (by rw [HD.out]; exact h0)
  clear hr0
  unfold bv at hc0
  rw [hr0b] at hc0
  clear hr0b
  replace hc0 : w2.cell? ⟨b1, off1, none⟩ = some (.int .u8 0) := hc0
  obtain ⟨A5, ca5, ha5⟩ := h2.at_
  go_wp2_with fail
  refine (fail_any eb Z A5 ca5 (r.drop x.toNat) 0 10 _ ha5).mono ?_
  rintro e w3 ⟨rfl, h3⟩
  replace h3 : EyeTo w2 200 eb Z [] 10 w3 := h3
  replace hD := hD.fr h3.fr (by rintro b _ hb rfl; exact hz hb)
  have h13 := h12.trans h3
  go_wp2_with fail
  go_loop [4, 48] (fun nv iv => ∃ i : Nat, i ≤ x.toNat ∧ iv = .int .i64 (i : Int) ∧ nv = .int .u64 (val ((r.take x.toNat).take i) : Int)) (fun _ iv => x.toNat - (intOf iv).toNat)
  case atStart => exact ⟨0, Nat.zero_le _, rfl, rfl⟩
  case round =>
    obtain ⟨i, hi, rfl, rfl⟩ := hrel
    by_cases hlt : i < x.toNat
    · obtain ⟨b2, off2, eA, _, _, hc⟩ := hD.atm (k := i) (by rw [HD.out]; exact hlt)
      obtain ⟨rfl, rfl⟩ : b1 = b2 ∧ off1 = off2 := by simpa using eA
      have hv := val_take (l := r.take x.toNat) (i := i) (by rw [HD.out]; exact hlt)
      have hb7 : val ((r.take x.toNat).take i) < 256 ^ 7 := Nat.lt_of_lt_of_le (val_lt _) (Nat.pow_le_pow_right (by decide) (by rw [List.length_take, HD.out]; omega))
      have hgd : (r.take x.toNat).getD i 0 = (r.take x.toNat)[i]'(by rw [HD.out]; exact hlt) := by rw [List.getD_eq_getElem?_getD, List.getElem?_eq_getElem (by rw [HD.out]; exact hlt)]; rfl
      rw [hgd] at hv
      generalize (r.take x.toNat)[i]'(by rw [HD.out]; exact hlt) = d at hc hv
      have HV := Lib.hid hv
      clear hv hgd
      unfold bv at hc
      generalize val ((r.take x.toNat).take i) = m at *
      have hor := or_byte (n := m) (d := d) hb7
      have hm56 : m < 72057594037927936 := hb7
      clear hb7
      have hd8 := d.toNat_lt
      go_wp2_with fail
      go_round
      case rel => exact ⟨i + 1, hlt, by go_num, by rw [HV.out]; go_num⟩
      case measure => simp [intOf]; omega
    · have e : i = x.toNat := by omega
      subst e
      rw [show ((r.take x.toNat).take x.toNat) = r.take x.toNat by rw [List.take_take]; simp]
      obtain ⟨A3, ca3, ha3⟩ := h3.at_
      have c13 := ha3.c1
      have hvl := val_lt64 (l := r.take x.toNat) (by rw [HD.out]; omega)
      by_cases hm : most < val (r.take x.toNat)
      · go_wp2_with fail
        refine (fail_any eb Z A3 ca3 [] 10 13 _ ha3).mono ?_
        rintro e w9 ⟨rfl, h9⟩
        replace h9 : EyeTo w3 200 eb Z [] 10 w9 := h9
        obtain ⟨A4, ca4, ha4⟩ := h9.at_
        have c14 := ha4.c1
        go_wp2_with fail
        go_ret
        rw [readS_zero hx hr HCL.out]
        exact ⟨rfl, h13.trans h9⟩
      · go_wp2_with fail
        go_ret
        rw [readS_zero hx hr HCL.out]
        exact ⟨rfl, h13⟩


theorem eyeNum_any (eb : Nat) (Z : Nat → Prop) (A : Option Addr) (c : Nat) (l : List UInt8) (f : Int) (most : Nat) (w : World) (h : EyeAt w 200 eb Z A c l f) (hz : ¬ Z eb) :
    Calls Try.prog 86 #[.pointer (some ⟨eb, 0, none⟩), .int .u64 most] w (NumTo w 200 eb Z (readS l f most)) := by
  by_cases hf : f = 0
  · subst hf
    rcases l with _ | ⟨x, r⟩
    · exact eyeNum_none eb Z A c most w h
    · by_cases hx : 8 < x.toNat
      · exact eyeNum_wide eb Z A c x r most w h hz hx
      · by_cases hr : r.length < x.toNat
        · exact eyeNum_short eb Z A c x r most w h hz hx hr
        · by_cases h0 : x.toNat = 0
          · exact eyeNum_ok0 eb Z A c x r most w h hz hx hr h0
          · by_cases hr0 : r.getD 0 0 = 0
            · exact eyeNum_zero eb Z A c x r most w h hz hx hr (by omega) hr0
            · exact eyeNum_ok1 eb Z A c x r most w h hz hx hr (by omega) hr0
  · exact eyeNum_bad eb Z A c l f most w h hf
end Go.Proofs.Ytdnljmncdbcgeaa

/- tenderref01.Eye.Read. -/
namespace Go.Proofs.Ytdnljmncdbcgeaa
open Go.RowKit

set_option maxHeartbeats 400000 in
theorem eyeRead_bad (eb : Nat) (Z : Nat → Prop) (A : Option Addr) (c : Nat) (l : List UInt8) (f : Int) (most : Nat) (w : World) (h : EyeAt w 166 eb Z A c l f) (hf : f ≠ 0) :
    Calls Try.prog 92 #[.pointer (some ⟨eb, 0, none⟩), .int .u64 most] w (NumTo w 166 eb Z (readS l f most)) := by
  have c1 := h.c1
  rw [readS_bad hf]
  have hfb : (f != 0) = true := by simpa using hf
  go_enter Try.func92, Try.ntmps92
  go_wp2_with fail
  go_ret
  exact ⟨rfl, h.to⟩

set_option maxHeartbeats 400000 in
theorem eyeRead_none (eb : Nat) (Z : Nat → Prop) (A : Option Addr) (c : Nat) (most : Nat) (w : World) (h : EyeAt w 166 eb Z A c [] 0) :
    Calls Try.prog 92 #[.pointer (some ⟨eb, 0, none⟩), .int .u64 most] w (NumTo w 166 eb Z (readS [] 0 most)) := by
  have c1 := h.c1
  have c0 := h.c0
  rw [readS_nil]
  go_enter Try.func92, Try.ntmps92
  go_wp2_with fail
  refine (failR_any eb Z A c [] 0 11 w h).mono ?_
  rintro e w1 ⟨rfl, h1⟩
  go_wp2_with fail
  go_ret
  exact ⟨rfl, h1⟩

theorem rd_first {w : World} {T eb : Nat} {Z : Nat → Prop} {A : Option Addr} {c : Nat} {x : UInt8} {r : List UInt8} {f : Int} (h : EyeAt w T eb Z A c (x :: r) f) :
    ∃ b off, A = some ⟨b, off, none⟩ ∧ Z b ∧ w.cell? ⟨b, off, none⟩ = some (.int .u8 (x.toNat : Int)) ∧ ∀ j (hj : j < r.length), w.cell? ⟨b, off + (1 + j), none⟩ = some (.int .u8 (r[j].toNat : Int)) := by
  obtain ⟨b, off, e, hz, _, hc⟩ := Rd.atm h.2.1 (k := 0) (by simp)
  refine ⟨b, off, e, hz, hc, fun j hj => ?_⟩
  obtain ⟨b2, off2, e2, _, _, hc2⟩ := Rd.atm h.2.1 (k := 1 + j) (by simp; omega)
  rw [e] at e2
  obtain ⟨rfl, rfl⟩ : b = b2 ∧ off = off2 := by simpa using e2
  rw [hc2]
  simp [bv, Nat.add_comm 1 j]

set_option maxHeartbeats 400000 in
theorem eyeRead_wide (eb : Nat) (Z : Nat → Prop) (A : Option Addr) (c : Nat) (x : UInt8) (r : List UInt8) (most : Nat) (w : World) (h : EyeAt w 166 eb Z A c (x :: r) 0) (hx : 8 < x.toNat) :
    Calls Try.prog 92 #[.pointer (some ⟨eb, 0, none⟩), .int .u64 most] w (NumTo w 166 eb Z (readS (x :: r) 0 most)) := by
  have c1 := h.c1
  have c0 := h.c0
  rw [readS_wide hx]
  have hx8 : x.toNat < 256 := x.toNat_lt
  have hbd : r.length + 1 ≤ c ∧ c ≤ 9223372036854775807 := h.bounds
  obtain ⟨b, off, rfl, _, hcell, _⟩ := rd_first h
  go_enter Try.func92, Try.ntmps92
  go_wp2_with fail
  refine (failR_any eb Z _ c (x :: r) 0 10 w h).mono ?_
  rintro e w1 ⟨rfl, h1⟩
  go_wp2_with fail
  go_ret
  exact ⟨rfl, h1⟩

set_option maxHeartbeats 400000 in
theorem eyeRead_short (eb : Nat) (Z : Nat → Prop) (A : Option Addr) (c : Nat) (x : UInt8) (r : List UInt8) (most : Nat) (w : World) (h : EyeAt w 166 eb Z A c (x :: r) 0) (hx : ¬ 8 < x.toNat) (hr : r.length < x.toNat) :
    Calls Try.prog 92 #[.pointer (some ⟨eb, 0, none⟩), .int .u64 most] w (NumTo w 166 eb Z (readS (x :: r) 0 most)) := by
  have c1 := h.c1
  have c0 := h.c0
  rw [readS_short hx hr]
  have hx8 : x.toNat < 256 := x.toNat_lt
  have hbd : r.length + 1 ≤ c ∧ c ≤ 9223372036854775807 := h.bounds
  obtain ⟨b, off, rfl, _, hcell, _⟩ := rd_first h
  go_enter Try.func92, Try.ntmps92
  go_wp2_with fail
  refine (failR_any eb Z _ c (x :: r) 0 11 w h).mono ?_
  rintro e w1 ⟨rfl, h1⟩
  go_wp2_with fail
  go_ret
  exact ⟨rfl, h1⟩

set_option maxHeartbeats 1000000 in
theorem eyeRead_long (eb : Nat) (Z : Nat → Prop) (A : Option Addr) (c : Nat) (x : UInt8) (r : List UInt8) (most : Nat) (w : World) (h : EyeAt w 166 eb Z A c (x :: r) 0) (hz : ¬ Z eb) (hx : ¬ 8 < x.toNat) (hr : ¬ r.length < x.toNat) :
    Calls Try.prog 92 #[.pointer (some ⟨eb, 0, none⟩), .int .u64 most] w (NumTo w 166 eb Z (readS (x :: r) 0 most)) := by
  have c1 := h.c1
  have c0 := h.c0
  have f0 := h.f0
  have hbd := h.bounds
  have hll : (x :: r).length ≤ 1 + r.length := by simp; omega
  have hx8 : x.toNat < 256 := x.toNat_lt
  obtain ⟨b, off, rfl, hzb, hcell, hcells⟩ := rd_first h
  have HC := Lib.hid hcells
  clear hcells
  replace c0 : w.cell? ⟨eb, 0, none⟩ = some (.slice (some ⟨b, off, none⟩) (r.length + 1) c) := c0
  replace hbd : r.length + 1 ≤ c ∧ c ≤ 9223372036854775807 := hbd
  clear hll
  have H := Lib.hid h
  clear h
  go_enter Try.func92, Try.ntmps92
  go_wp2_with fail
  go_loop [6, 7] (fun nv iv => ∃ i : Nat, i ≤ x.toNat ∧ iv = .int .i64 ((i + 1 : Nat) : Int) ∧ nv = .int .u64 (val (r.take i) : Int)) (fun _ iv => x.toNat + 1 - (intOf iv).toNat)
  case atStart => exact ⟨0, Nat.zero_le _, rfl, rfl⟩
  case round =>
    obtain ⟨i, hi, rfl, rfl⟩ := hrel
    by_cases hlt : i < x.toNat
    · have hil : i < r.length := by omega
      have hc := HC.out i hil
      have hv := val_take (l := r) (i := i) hil
      have hb7 : val (r.take i) < 256 ^ 7 := Nat.lt_of_lt_of_le (val_lt _) (Nat.pow_le_pow_right (by decide) (by rw [List.length_take]; omega))
      have hgd : r.getD i 0 = r[i] := by rw [List.getD_eq_getElem?_getD, List.getElem?_eq_getElem hil]; rfl
      rw [hgd] at hv
      generalize r[i] = d at hc hv
      have HV := Lib.hid hv
      clear hv hgd
      generalize val (r.take i) = m at *
      have hm56 : m < 72057594037927936 := hb7
      clear hb7
      have hd8 := d.toNat_lt
      replace hc : w.cell? ⟨b, off + (i + 1), none⟩ = some (.int .u8 (d.toNat : Int)) := by rw [Nat.add_comm i 1]; exact hc
      go_wp2_with fail
      go_round
      case rel => exact ⟨i + 1, hlt, by go_num, by rw [HV.out]; go_num⟩
      case measure => simp [intOf]; omega
    · have e : i = x.toNat := by omega
      subst e
      have hvl := val_lt64 (l := r.take x.toNat) (by rw [List.length_take]; omega)
      have hend : ∀ w', EyeTo w 166 eb Z ((x :: r).drop (1 + x.toNat)) 0 w' → EyeTo w 166 eb Z (r.drop x.toNat) 0 w' := by
        intro w' hh
        rw [Nat.add_comm 1, List.drop_succ_cons] at hh
        exact hh
      by_cases h0 : 0 < x.toNat
      · have h1r : 0 < r.length := by omega
        have hc1 := HC.out 0 h1r
        have hgd : r.getD 0 0 = r[0] := by rw [List.getD_eq_getElem?_getD, List.getElem?_eq_getElem h1r]; rfl
        replace hc1 : w.cell? ⟨b, off + 1, none⟩ = some (.int .u8 (r[0].toNat : Int)) := hc1
        have HG := Lib.hid hgd
        clear hgd
        generalize r[0] = y at hc1 HG
        by_cases hy : y = 0
        · subst hy
          go_wp2_with fail
          refine (failR_any eb Z _ c (x :: r) 0 10 w H.out).mono ?_
          rintro e w1 ⟨rfl, h1⟩
          go_wp2_with fail
          go_ret
          rw [readS_zero hx hr ⟨h0, HG.out⟩]
          exact ⟨rfl, h1⟩
        · have hyb : ((y.toNat : Int) == 0) = false := by rw [beq_eq_false_iff_ne]; intro e; exact hy (UInt8.toNat_inj.1 (by simpa using e))
          have hn3 : ¬ (0 < x.toNat ∧ r.getD 0 0 = 0) := fun hh => hy (by rw [← HG.out]; exact hh.2)
          have HN3 := Lib.hid hn3
          clear hn3 hy
          by_cases hm : most < val (r.take x.toNat)
          · go_wp2_with fail
            refine (failR_any eb Z _ c (x :: r) 0 13 w H.out).mono ?_
            rintro e w1 ⟨rfl, h1⟩
            go_wp2_with fail
            go_ret
            rw [readS_long hx hr HN3.out hm]
            exact ⟨rfl, h1⟩
          · have hcut := H.out.cut (n := 1 + x.toNat) (by simp; omega) hz
            by_cases hcc : c = 1 + x.toNat
            · rw [if_pos hcc, show c - (1 + x.toNat) = 0 by omega] at hcut
              have HQ := Lib.hid hcc
              clear hcc
              go_wp2_with fail
              go_ret
              rw [readS_ok hx hr HN3.out hm]
              exact ⟨rfl, hend _ hcut⟩
            · rw [if_neg hcc, Option.map_some, add_none] at hcut
              go_wp2_with fail
              go_ret
              rw [readS_ok hx hr HN3.out hm]
              exact ⟨rfl, hend _ hcut⟩
      · have h0b : decide (0 < x.toNat) = false := by simpa using h0
        have hn3 : ¬ (0 < x.toNat ∧ r.getD 0 0 = 0) := fun hh => h0 hh.1
        have HN3 := Lib.hid hn3
        clear hn3
        by_cases hm : most < val (r.take x.toNat)
        · go_wp2_with fail
          refine (failR_any eb Z _ c (x :: r) 0 13 w H.out).mono ?_
          rintro e w1 ⟨rfl, h1⟩
          go_wp2_with fail
          go_ret
          rw [readS_long hx hr HN3.out hm]
          exact ⟨rfl, h1⟩
        · have hcut := H.out.cut (n := 1 + x.toNat) (by simp; omega) hz
          by_cases hcc : c = 1 + x.toNat
          · rw [if_pos hcc, show c - (1 + x.toNat) = 0 by omega] at hcut
            have HQ := Lib.hid hcc
            clear hcc
            go_wp2_with fail
            go_ret
            rw [readS_ok hx hr HN3.out hm]
            exact ⟨rfl, hend _ hcut⟩
          · rw [if_neg hcc, Option.map_some, add_none] at hcut
            go_wp2_with fail
            go_ret
            rw [readS_ok hx hr HN3.out hm]
            exact ⟨rfl, hend _ hcut⟩

theorem eyeRead_any (eb : Nat) (Z : Nat → Prop) (A : Option Addr) (c : Nat) (l : List UInt8) (f : Int) (most : Nat) (w : World) (h : EyeAt w 166 eb Z A c l f) (hz : ¬ Z eb) :
    Calls Try.prog 92 #[.pointer (some ⟨eb, 0, none⟩), .int .u64 most] w (NumTo w 166 eb Z (readS l f most)) := by
  by_cases hf : f = 0
  · subst hf
    rcases l with _ | ⟨x, r⟩
    · exact eyeRead_none eb Z A c most w h
    · by_cases hx : 8 < x.toNat
      · exact eyeRead_wide eb Z A c x r most w h hx
      · by_cases hr : r.length < x.toNat
        · exact eyeRead_short eb Z A c x r most w h hx hr
        · exact eyeRead_long eb Z A c x r most w h hz hx hr
  · exact eyeRead_bad eb Z A c l f most w h hf
end Go.Proofs.Ytdnljmncdbcgeaa

/- grain.Eye: Open, Fault, Left, Close, Int, Truth; digits and their number. -/
namespace Go.Proofs.Ytdnljmncdbcgeaa
open Go.RowKit

theorem val_pos : ∀ (m : Nat) (D : List UInt8), D.length = m → D ≠ [] → D.getD 0 0 ≠ 0 → 0 < val D
  | 0, D, h, h2, _ => absurd (List.eq_nil_of_length_eq_zero h) h2
  | m + 1, D, h, h2, h3 => by
    have e : D = D.dropLast ++ [D.getLast h2] := (List.dropLast_concat_getLast h2).symm
    rcases Nat.eq_zero_or_pos m with h0 | h0
    · subst h0
      obtain ⟨d, rfl⟩ := List.length_eq_one_iff.1 h
      simp at h3
      simp only [val, List.foldl_cons, List.foldl_nil]
      have : d.toNat ≠ 0 := fun e => h3 (UInt8.toNat_inj.1 (by simpa using e))
      omega
    · have hl : D.dropLast.length = m := by simp [h]
      have hn : D.dropLast ≠ [] := by intro e; rw [e] at hl; simp at hl; omega
      have hg : D.dropLast.getD 0 0 = D.getD 0 0 := by
        rw [List.getD_eq_getElem?_getD, List.getD_eq_getElem?_getD, List.getElem?_dropLast, if_pos (by omega)]
      have := val_pos m _ hl hn (by rw [hg]; exact h3)
      rw [e, val_snoc]
      omega

theorem digs_val : ∀ (m : Nat) (D : List UInt8), D.length = m → m ≤ 8 → (D ≠ [] → D.getD 0 0 ≠ 0) → digs (val D) = D
  | 0, D, h, _, _ => by
    have := List.eq_nil_of_length_eq_zero h
    subst this
    exact digs_zero
  | m + 1, D, h, hm, h3 => by
    have h2 : D ≠ [] := by intro e; rw [e] at h; simp at h
    have hp := val_pos _ D h h2 (h3 h2)
    have h64 := val_lt64 (l := D) (by omega)
    rw [digs_step hp h64]
    have e : D = D.dropLast ++ [D.getLast h2] := (List.dropLast_concat_getLast h2).symm
    have hv : val D = val D.dropLast * 256 + (D.getLast h2).toNat := by
      conv => lhs; rw [e]
      exact val_snoc _ _
    have hd := (D.getLast h2).toNat_lt
    have hdiv : val D / 256 = val D.dropLast := by omega
    have hmod : val D % 256 = (D.getLast h2).toNat := by omega
    rw [hdiv, hmod, digs_val m D.dropLast (by simp [h]) (by omega) ?_]
    · rw [UInt8.ofNat_toNat]
      exact e.symm
    · intro hn
      have hl : D.dropLast.length = m := by simp [h]
      have hm0 : 0 < m := by
        rcases Nat.eq_zero_or_pos m with h0 | h0
        · rw [h0] at hl; exact absurd (List.eq_nil_of_length_eq_zero hl) hn
        · exact h0
      rw [List.getD_eq_getElem?_getD, List.getElem?_dropLast, if_pos (by omega), ← List.getD_eq_getElem?_getD]
      exact h3 h2

/-- a number that was read has just the bytes of which it was read -/
theorem readS_once {l l' : List UInt8} {n most : Nat} (h : readS l 0 most = (n, l', 0)) : n ≤ most ∧ n < 18446744073709551616 ∧ ∃ k, 1 ≤ k ∧ k ≤ l.length ∧ l'.length = l.length - k ∧ l.take k = numB n ∧ l' = l.drop k := by
  rcases l with _ | ⟨x, r⟩
  · rw [readS_nil] at h; simp at h
  · by_cases h1 : 8 < x.toNat
    · rw [readS_wide h1] at h; simp at h
    · by_cases h2 : r.length < x.toNat
      · rw [readS_short h1 h2] at h; simp at h
      · by_cases h3 : 0 < x.toNat ∧ r.getD 0 0 = 0
        · rw [readS_zero h1 h2 h3] at h; simp at h
        · by_cases h4 : most < val (r.take x.toNat)
          · rw [readS_long h1 h2 h3 h4] at h; simp at h
          · rw [readS_ok h1 h2 h3 h4] at h
            simp only [Prod.mk.injEq, and_true] at h
            obtain ⟨rfl, rfl⟩ := h
            have hlen : (r.take x.toNat).length = x.toNat := by rw [List.length_take]; omega
            refine ⟨by omega, val_lt64 (by rw [hlen]; omega), x.toNat + 1, by omega, by simp; omega, by simp, ?_, by simp⟩
            have hd := digs_val _ (r.take x.toNat) hlen (by omega) (by
              intro hn e
              have h0 : 0 < x.toNat := by
                rcases Nat.eq_zero_or_pos x.toNat with h0 | h0
                · rw [h0] at hn; simp at hn
                · exact h0
              refine h3 ⟨h0, ?_⟩
              rw [List.getD_eq_getElem?_getD, List.getElem?_take, if_pos h0, ← List.getD_eq_getElem?_getD] at e
              exact e)
            unfold numB
            rw [hd, hlen, UInt8.ofNat_toNat, List.take_succ_cons]

theorem failS_pair (l : List UInt8) (f code : Int) : failS l f code = ((failS l f code).1, (failS l f code).2) := rfl

set_option maxHeartbeats 400000 in
theorem open_any (A : Option Addr) (c n : Nat) (w : World) :
    Calls Try.prog 85 #[.slice A n c] w fun e w' => e = .returned (.pointer (some ⟨w.heap.size, 0, none⟩)) ∧ w.alloc (.cells #[.slice A n c, .int .i64 0] 200) = w' := by
  go_enter Try.func85, Try.ntmps85
  go_wp2_with fail
  go_ret
  exact ⟨rfl, rfl⟩
/-- a new eye -/
theorem EyeAt.new (w : World) {T : Nat} {Z : Nat → Prop} {A : Option Addr} {c : Nat} {l : List UInt8} (h : By w Z A l) (h1 : l.length ≤ c) (h2 : c ≤ maxLen) :
    EyeAt (w.alloc (.cells #[.slice A l.length c, .int .i64 0] T)) T w.heap.size Z A c l 0 := ⟨Blk.new _ _ _, h.alloc _, h1, h2⟩

set_option maxHeartbeats 400000 in
theorem fault_any (eb : Nat) (Z : Nat → Prop) (A : Option Addr) (c : Nat) (l : List UInt8) (f : Int) (w : World) (h : EyeAt w 200 eb Z A c l f) :
    Calls Try.prog 88 #[.pointer (some ⟨eb, 0, none⟩)] w fun e w' => e = .returned (.int .i64 f) ∧ w = w' := by
  have c1 := h.c1
  go_enter Try.func88, Try.ntmps88
  go_wp2_with fail
  go_ret
  exact ⟨rfl, rfl⟩

set_option maxHeartbeats 400000 in
theorem left_any (eb : Nat) (Z : Nat → Prop) (A : Option Addr) (c : Nat) (l : List UInt8) (f : Int) (w : World) (h : EyeAt w 200 eb Z A c l f) :
    Calls Try.prog 137 #[.pointer (some ⟨eb, 0, none⟩)] w fun e w' => e = .returned (.int .i64 (l.length : Int)) ∧ w = w' := by
  have c0 := h.c0
  go_enter Try.func137, Try.ntmps137
  go_wp2_with fail
  go_ret
  exact ⟨rfl, rfl⟩

/-- what Close tells -/
def closeS (l : List UInt8) (f : Int) : Int := if f ≠ 0 then f else if 0 < l.length then 12 else 0

set_option maxHeartbeats 400000 in
theorem close_any (eb : Nat) (Z : Nat → Prop) (A : Option Addr) (c : Nat) (l : List UInt8) (f : Int) (w : World) (h : EyeAt w 200 eb Z A c l f) :
    Calls Try.prog 91 #[.pointer (some ⟨eb, 0, none⟩)] w fun e w' => e = .returned (.int .i64 (closeS l f)) ∧ w = w' := by
  by_cases hf : f = 0
  · by_cases hl : 0 < l.length
    · have e1 := Lib.hid (show closeS l f = 12 by unfold closeS; rw [if_neg (by simpa using hf), if_pos hl])
      subst hf
      go_enter Try.func91, Try.ntmps91
      go_wp2_with (first | (go_at_call 88; refine (fault_any eb Z A c l 0 _ h).mono ?_; rintro e w' ⟨rfl, rfl⟩) | (go_at_call 137; refine (left_any eb Z A c l 0 _ h).mono ?_; rintro e w' ⟨rfl, rfl⟩))
      go_ret
      exact ⟨by rw [e1.out]; rfl, rfl⟩
    · have e1 := Lib.hid (show closeS l f = 0 by unfold closeS; rw [if_neg (by simpa using hf), if_neg hl])
      subst hf
      go_enter Try.func91, Try.ntmps91
      go_wp2_with (first | (go_at_call 88; refine (fault_any eb Z A c l 0 _ h).mono ?_; rintro e w' ⟨rfl, rfl⟩) | (go_at_call 137; refine (left_any eb Z A c l 0 _ h).mono ?_; rintro e w' ⟨rfl, rfl⟩))
      go_ret
      exact ⟨by rw [e1.out]; rfl, rfl⟩
  · have e1 := Lib.hid (show closeS l f = f by unfold closeS; rw [if_pos hf])
    have hfb : (f != 0) = true := by simpa using hf
    go_enter Try.func91, Try.ntmps91
    go_wp2_with (first | (go_at_call 88; refine (fault_any eb Z A c l f _ h).mono ?_; rintro e w' ⟨rfl, rfl⟩))
    go_ret
    exact ⟨by rw [e1.out]; rfl, rfl⟩

end Go.Proofs.Ytdnljmncdbcgeaa
