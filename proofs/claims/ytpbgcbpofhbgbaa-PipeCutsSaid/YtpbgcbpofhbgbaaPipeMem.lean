/- pipe.Pipe in memory; New, Closed, Count, Len. -/
import Derived.Test.YtpbgcbpofhbgbaaRow
import Derived.Test.YtpbgcbpofhbgbaaFlat
import Derived.Test.YtpbgcbpofhbgbaaShelf
import Derived.Handy
import Derived.Deep.RegionLaw
import Derived.Deep.RegionHeld3
namespace Go.Proofs.Ytpbgcbpofhbgbaa
open Go.RowKit

/-- a parcel -/
structure PV where
  x : BV
  b : Bool
  d : Bool
def PV.cells (p : PV) : List Value := [.slice p.x.A p.x.l.length p.x.c, .bool p.b, .bool p.d]
def PV.s (p : PV) : List UInt8 × Bool × Bool := (p.x.l, p.b, p.d)
theorem par_info : (Try.prog.info? 75).map (fun i => (i.zero, i.size, i.bytes)) = some (some (.agg #[.slice none 0 0, .bool false, .bool false]), 3, 32) := by kernel_rfl
theorem par_one (l : List PV) : ∀ u ∈ l.flatMap PV.cells, u.oneCell' = true := by
  intro u hu
  obtain ⟨p, _, hp⟩ := List.mem_flatMap.1 hu
  simp only [PV.cells, List.mem_cons, List.not_mem_nil, or_false] at hp
  rcases hp with rfl | rfl | rfl <;> rfl

/-- parcels in a row of their own -/
def Pars (w : World) (base : Nat) (A : Option Addr) (c : Nat) (ls : List PV) : Prop := Row w base 75 3 A ls.length c (ls.flatMap PV.cells)
/-- all bytes of parcels -/
def flatP (S : List (List UInt8 × Bool × Bool)) : List UInt8 := S.flatMap fun p => p.1
/-- the pipe at block pb -/
structure PipeAt (w : World) (base pb : Nat) (X : Nat → Prop) (A : Option Addr) (c : Nat) (ls : List PV) (cl : Bool) : Prop where
  blk : Blk w pb 48 #[.slice A ls.length c, .bool cl]
  row : Pars w base A c ls
  ok : ∀ p ∈ ls, p.x.ok w (fun b => b ≠ pb ∧ ablk A ≠ some b ∧ ¬ X b)
  full : ∀ p ∈ ls, 0 < p.x.l.length
/-- what a method leaves -/
structure PipeTo (w : World) (base pb : Nat) (X : Nat → Prop) (A : Option Addr) (S : List (List UInt8 × Bool × Bool)) (cl : Bool) (w' : World) : Prop where
  at_ : ∃ A' c' ls', PipeAt w' base pb X A' c' ls' cl ∧ Hid (ls'.map PV.s = S) ∧ ∀ g, ablk A' = some g → ablk A = some g ∨ w.heap.size ≤ g
  fr : Fr (fun k => k = pb ∨ ablk A = some k) w w'

namespace PipeAt
variable {w w' : World} {base pb c : Nat} {X : Nat → Prop} {A : Option Addr} {ls : List PV} {cl : Bool}
theorem ne (h : PipeAt w base pb X A c ls cl) : ablk A ≠ some pb := h.row.ne_blk h.blk (by decide)
theorem fr {S : Nat → Prop} (h : PipeAt w base pb X A c ls cl) (k : Fr S w w') (h1 : ¬ S pb) (h2 : ∀ g, ablk A = some g → ¬ S g) (h3 : ∀ b, b < w.heap.size → b ≠ pb → ablk A ≠ some b → ¬ X b → ¬ S b) : PipeAt w' base pb X A c ls cl :=
  ⟨h.blk.fr k h1, h.row.fr k h2, fun p hp => (h.ok p hp).fr k (fun b hb hz => h3 b hb hz.1 hz.2.1 hz.2.2), h.full⟩
theorem below (h : PipeAt w base pb X A c ls cl) (k : Below w.heap.size w w') : PipeAt w' base pb X A c ls cl := h.fr (Fr.of_below k (fun _ => False)) (fun h => h) (fun _ _ h => h) (fun _ _ _ _ _ h => h)
theorem c0 (h : PipeAt w base pb X A c ls cl) : w.cell? ⟨pb, 0, none⟩ = some (.slice A ls.length c) := h.blk.cell 0
theorem c1 (h : PipeAt w base pb X A c ls cl) : w.cell? ⟨pb, 1, none⟩ = some (.bool cl) := h.blk.cell 1
theorem f0 (h : PipeAt w base pb X A c ls cl) : w.frozen? ⟨pb, 0, none⟩ = false := h.blk.frozen 0
theorem f1 (h : PipeAt w base pb X A c ls cl) : w.frozen? ⟨pb, 1, none⟩ = false := h.blk.frozen 1
theorem to (h : PipeAt w base pb X A c ls cl) : PipeTo w base pb X A (ls.map PV.s) cl w := ⟨⟨A, c, ls, h, rfl, fun _ hg => .inl hg⟩, Fr.refl _ _⟩
theorem new (w : World) {base : Nat} {X : Nat → Prop} : PipeAt (w.alloc (.cells #[.slice none 0 0, .bool false] 48)) base w.heap.size X none 0 [] false :=
  ⟨Blk.new _ _ _, Row.none_ _ _ _ _, by simp, by simp⟩
/-- new blocks are apart from all parcels' bytes -/
theorem addX (h : PipeAt w base pb X A c ls cl) {Y : Nat → Prop} (hY : ∀ b, Y b → w.heap.size ≤ b) : PipeAt w base pb (fun b => X b ∨ Y b) A c ls cl :=
  ⟨h.blk, h.row, fun p hp => ((h.ok p hp).mono (Z' := fun b => (b ≠ pb ∧ ablk A ≠ some b ∧ ¬ X b) ∧ b < w.heap.size) (fun b hb hz => ⟨hz, hb⟩)).mono (fun b _ hz => ⟨hz.1.1, hz.1.2.1, fun e => e.elim hz.1.2.2 (fun e => by have := hY b e; have := hz.2; omega)⟩), h.full⟩
theorem lessX {X' : Nat → Prop} (h : PipeAt w base pb X A c ls cl) (hX : ∀ b, X' b → X b) : PipeAt w base pb X' A c ls cl :=
  ⟨h.blk, h.row, fun p hp => (h.ok p hp).mono (fun b _ hz => ⟨hz.1, hz.2.1, fun e => hz.2.2 (hX b e)⟩), h.full⟩
/-- the cells of one parcel -/
theorem par (h : PipeAt w base pb X A c ls cl) {i : Nat} (hi : i < ls.length) : ∃ g off, A = some ⟨g, off, none⟩ ∧ base ≤ g ∧ g < w.heap.size ∧ g ≠ pb ∧ w.cell? ⟨g, off + i * 3, none⟩ = some (.slice ls[i].x.A ls[i].x.l.length ls[i].x.c) ∧
    w.cell? ⟨g, off + i * 3 + 1, none⟩ = some (.bool ls[i].b) ∧ w.cell? ⟨g, off + i * 3 + 2, none⟩ = some (.bool ls[i].d) := by
  obtain ⟨g, off, rfl, hb, hlt⟩ := h.row.addr (by omega)
  have hg : ∀ j, j < 3 → (ls.flatMap PV.cells)[i * 3 + j]? = (PV.cells ls[i])[j]? := fun j hj => flat_get (k := 3) (fun _ => rfl) ls i j hi hj
  refine ⟨g, off, rfl, hb, hlt, ?_, h.row.cell (hg 0 (by omega)), ?_, ?_⟩
  · rintro rfl; exact h.ne rfl
  · rw [Nat.add_assoc]; exact h.row.cell (hg 1 (by omega))
  · rw [Nat.add_assoc]; exact h.row.cell (hg 2 (by omega))
end PipeAt
theorem PipeTo.trans {a b d : World} {base pb : Nat} {X : Nat → Prop} {A A' : Option Addr} {S : List (List UInt8 × Bool × Bool)} {cl : Bool} (hA : ∀ g, ablk A' = some g → ablk A = some g ∨ a.heap.size ≤ g) (k1 : Fr (fun k => k = pb ∨ ablk A = some k) a b) (k : PipeTo b base pb X A' S cl d) : PipeTo a base pb X A S cl d := by
  obtain ⟨A2, c2, ls2, h1, h2, h3⟩ := k.at_
  refine ⟨⟨A2, c2, ls2, h1, h2, fun g hg => ?_⟩, k1.trans k.fr ?_⟩
  · rcases h3 g hg with h | h
    · exact hA g h
    · have := k1.size; exact .inr (by omega)
  · intro x hx hS
    rcases hS with rfl | hS
    · exact .inl rfl
    · rcases hA x hS with h | h
      · exact .inr h
      · omega
theorem PipeTo.below {a b d : World} {base pb : Nat} {X : Nat → Prop} {A : Option Addr} {S : List (List UInt8 × Bool × Bool)} {cl : Bool} (h : PipeTo a base pb X A S cl b) (k : Below b.heap.size b d) : PipeTo a base pb X A S cl d := by
  obtain ⟨A2, c2, ls2, h1, h2, h3⟩ := h.at_
  exact ⟨⟨A2, c2, ls2, h1.below k, h2, h3⟩, h.fr.then_below k⟩

/-- the step of all: a row made anew of the old one, stored back -/
theorem PipeTo.stored {w w1 w2 : World} {base pb : Nat} {X : Nat → Prop} {A A2 : Option Addr} {c c2 : Nat} {ls ls2 : List PV} {cl : Bool} (h : PipeAt w base pb X A c ls cl) (k : Below w.heap.size w w1)
    (hrow : Pars w2 base A2 c2 ls2) (hg : w1.grownBy w2 (ablk A)) (hat : ∀ g, ablk A2 = some g → ablk A = some g ∨ w1.heap.size ≤ g)
    (hok : ∀ p ∈ ls2, p.x.ok w1 (fun b => b ≠ pb ∧ ablk A ≠ some b ∧ ¬ X b)) (hfull : ∀ p ∈ ls2, 0 < p.x.l.length) :
    PipeTo w base pb X A (ls2.map PV.s) cl (w2.setCell ⟨pb, 0, none⟩ (.slice A2 ls2.length c2)) := by
  have hpb := h.blk.lt
  have hb1 : Blk w1 pb 48 #[.slice A ls.length c, .bool cl] := h.blk.below k
  have hb2 := hb1.grown hg h.ne
  have hne2 : ablk A2 ≠ some pb := hrow.ne_blk hb2 (by decide)
  have f2 : Fr (fun x => ablk A = some x) w1 w2 := Fr.of_grown hg (fun _ _ e => e)
  have f3 : Fr (fun x => x = pb) w2 (w2.setCell ⟨pb, 0, none⟩ (.slice A2 ls2.length c2)) := (Fr.refl (fun x => x = pb) w2).setAt pb 0 rfl _
  have hs1 := k.size
  refine ⟨⟨A2, c2, ls2, ⟨?_, ?_, ?_, hfull⟩, rfl, ?_⟩, ?_⟩
  · have := hb2.set_ 0 (.slice A2 ls2.length c2)
    simpa using this
  · exact hrow.fr f3 (fun g hg e => hne2 (by rw [hg, e]))
  · intro p hp
    have h1 := (hok p hp).mono (Z' := fun b => (b ≠ pb ∧ ablk A ≠ some b ∧ ¬ X b) ∧ b < w1.heap.size) (fun b hb hz => ⟨hz, hb⟩)
    have h2 := (h1.fr f2 (fun b _ hz => hz.1.2.1)).fr f3 (fun b _ hz => hz.1.1)
    refine h2.mono (fun b _ hz => ⟨hz.1.1, fun e => ?_, hz.1.2.2⟩)
    rcases hat b e with h3 | h3
    · exact hz.1.2.1 h3
    · have := hz.2; omega
  · intro g hg
    rcases hat g hg with h3 | h3
    · exact .inl h3
    · exact .inr (by omega)
  · refine (((Fr.of_below k _).trans f2 (fun x _ e => .inr e)).trans f3 (fun x _ e => .inl e)).mono (fun _ _ h => h)

theorem pipeNew_any (w : World) : Calls Try.prog 10 #[] w fun e w' => e = .returned (.pointer (some ⟨w.heap.size, 0, none⟩)) ∧ w.alloc (.cells #[.slice none 0 0, .bool false] 48) = w' := by
  go_enter Try.func10, Try.ntmps10
  go_wp2_with fail
  go_ret
  exact ⟨rfl, rfl⟩
theorem pipeClosed_any (base pb : Nat) (X : Nat → Prop) (A : Option Addr) (c : Nat) (ls : List PV) (cl : Bool) (w : World) (h : PipeAt w base pb X A c ls cl) :
    Calls Try.prog 23 #[.pointer (some ⟨pb, 0, none⟩)] w fun e w' => e = .returned (.bool cl) ∧ w = w' := by
  have c1 := h.c1
  go_enter Try.func23, Try.ntmps23
  go_wp2_with fail
  go_ret
  exact ⟨rfl, rfl⟩
theorem pipeClosed_nil (w : World) : Calls Try.prog 23 #[.pointer none] w fun e w' => e = .returned (.bool true) ∧ w = w' := by
  go_enter Try.func23, Try.ntmps23
  go_wp2_with fail
  go_ret
  exact ⟨rfl, rfl⟩
theorem pipeCount_any (base pb : Nat) (X : Nat → Prop) (A : Option Addr) (c : Nat) (ls : List PV) (cl : Bool) (w : World) (h : PipeAt w base pb X A c ls cl) :
    Calls Try.prog 22 #[.pointer (some ⟨pb, 0, none⟩)] w fun e w' => e = .returned (.int .i64 (ls.length : Int)) ∧ w = w' := by
  have c0 := h.c0
  go_enter Try.func22, Try.ntmps22
  go_wp2_with fail
  go_ret
  exact ⟨rfl, rfl⟩
theorem pipeCount_nil (w : World) : Calls Try.prog 22 #[.pointer none] w fun e w' => e = .returned (.int .i64 0) ∧ w = w' := by
  go_enter Try.func22, Try.ntmps22
  go_wp2_with fail
  go_ret
  exact ⟨rfl, rfl⟩
theorem pipeLen_nil (w : World) : Calls Try.prog 15 #[.pointer none] w fun e w' => e = .returned (.int .i64 0) ∧ w = w' := by
  go_enter Try.func15, Try.ntmps15
  go_wp2_with fail
  go_ret
  exact ⟨rfl, rfl⟩
theorem flatP_take (S : List (List UInt8 × Bool × Bool)) (i : Nat) (hi : i < S.length) : (flatP (S.take (i + 1))).length = (flatP (S.take i)).length + S[i].1.length := by
  unfold flatP
  rw [List.take_succ_eq_append_getElem hi, List.flatMap_append, List.length_append]
  simp
theorem flatP_mono (S : List (List UInt8 × Bool × Bool)) (i : Nat) : (flatP (S.take i)).length ≤ (flatP S).length := by
  have : flatP S = flatP (S.take i) ++ flatP (S.drop i) := by unfold flatP; rw [← List.flatMap_append, List.take_append_drop]
  rw [this, List.length_append]; omega

set_option maxHeartbeats 400000 in
theorem pipeLen_any (base pb : Nat) (X : Nat → Prop) (A : Option Addr) (c : Nat) (ls : List PV) (cl : Bool) (w : World) (h : PipeAt w base pb X A c ls cl) (hn : ls.length ≤ 4398046511104) (hb : (flatP (ls.map PV.s)).length ≤ 140737488355328) :
    Calls Try.prog 15 #[.pointer (some ⟨pb, 0, none⟩)] w fun e w' => e = .returned (.int .i64 ((flatP (ls.map PV.s)).length : Int)) ∧ Below w.heap.size w w' := by
  have c0 := h.c0
  go_enter Try.func15, Try.ntmps15
  go_wp2_with fail
  go_loopw [2, 12] (fun sv iv wr => ∃ (i s : Nat), i ≤ ls.length ∧ iv = .int .i64 (i : Int) ∧ sv = .int .i64 (s : Int) ∧ Hid (s = (flatP ((ls.map PV.s).take i)).length) ∧ Below w.heap.size w wr) (fun _ iv _ => ls.length - (intOf iv).toNat)
  case atStart => exact ⟨0, 0, Nat.zero_le _, rfl, rfl, by show _ = _; simp [flatP], Below.refl _ _⟩
  case round =>
    obtain ⟨i, s, hi, rfl, rfl, hs, hbl⟩ := hrel
    by_cases hlt : i < ls.length
    · obtain ⟨g, off, rfl, _, _, _, q0, q1, q2⟩ := (h.below hbl).par hlt
      have hst := flatP_take (ls.map PV.s) i (by simpa using hlt)
      have hm := flatP_mono (ls.map PV.s) (i + 1)
      rw [hst, List.getElem_map] at hm
      rw [List.getElem_map] at hst
      have hsz := hbl.size
      have hsm : s + ls[i].x.l.length ≤ 140737488355328 := by rw [hs.out]; exact Nat.le_trans hm hb
      have Hst : Hid (s + ls[i].x.l.length = (flatP ((ls.map PV.s).take (i + 1))).length) := by show _ = _; rw [hst, hs.out]; rfl
      clear hst hm hs
      generalize ls[i] = p at *
      obtain ⟨⟨pA, pc, pl⟩, pb', pd⟩ := p
      dsimp only at *
      go_wp2_with fail
      go_roundw
      case rel => exact ⟨i + 1, s + pl.length, hlt, by go_num, by go_num, Hst, hbl.alloc hsz _⟩
      case measure => simp [intOf]; omega
    · have e : i = ls.length := by omega
      subst e
      have hse : s = (flatP (ls.map PV.s)).length := by rw [hs.out, List.take_of_length_le (by simp)]
      have Hse := Lib.hid hse
      clear hse hs
      go_wp2_with fail
      go_ret
      exact ⟨by rw [← Hse.out]; rfl, hbl⟩
end Go.Proofs.Ytpbgcbpofhbgbaa
