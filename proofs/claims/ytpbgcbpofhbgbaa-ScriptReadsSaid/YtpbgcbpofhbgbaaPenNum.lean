/- grain.Pen: num, Num, Truth, Text, Bytes. -/
import Derived.Test.YtpbgcbpofhbgbaaGrainNum
import Derived.Test.YtpbgcbpofhbgbaaShelf
import Derived.Deep.RegionLaw
import Derived.Outline
import Derived.IntWalk
namespace Go.Proofs.Ytpbgcbpofhbgbaa
open Go.RowKit

/-- The pen at block pb has the buffer v, which reads as l. -/
structure Pen (w : World) (base pb : Nat) (v : Value) (l : List UInt8) : Prop where
  blk : Blk w pb 113 #[v]
  own : OwB w base v l

/-- What a pen's method leaves: the pen has l', and only the pen and its buffer have turned. -/
structure PenTo (w : World) (base pb : Nat) (v : Value) (l' : List UInt8) (w' : World) (v' : Value) : Prop where
  pen : Pen w' base pb v' l'
  fr : Fr (fun k => k = pb ∨ v.ownBlock = some k) w w'
  at_ : v'.ownBlock = v.ownBlock ∨ ∃ g, v'.ownBlock = some g ∧ w.heap.size ≤ g

theorem Pen.cell {w : World} {base pb : Nat} {v : Value} {l : List UInt8} (h : Pen w base pb v l) : w.cell? ⟨pb, 0, none⟩ = some v := h.blk.cell 0
theorem Pen.frozen {w : World} {base pb : Nat} {v : Value} {l : List UInt8} (h : Pen w base pb v l) : w.frozen? ⟨pb, 0, none⟩ = false := h.blk.frozen 0
theorem Pen.ne {w : World} {base pb : Nat} {v : Value} {l : List UInt8} (h : Pen w base pb v l) : v.ownBlock ≠ some pb := h.blk.own_ne h.own (by decide)
theorem Pen.alloc {w : World} {base pb : Nat} {v : Value} {l : List UInt8} (h : Pen w base pb v l) (o : Obj) : Pen (w.alloc o) base pb v l := ⟨h.blk.alloc o, h.own.alloc o⟩
theorem Pen.below {w w' : World} {base pb : Nat} {v : Value} {l : List UInt8} (h : Pen w base pb v l) (k : Below w.heap.size w w') : Pen w' base pb v l := ⟨h.blk.below k, h.own.below k⟩
theorem PenTo.refl {w : World} {base pb : Nat} {v : Value} {l : List UInt8} (h : Pen w base pb v l) : PenTo w base pb v l w v := ⟨h, Fr.refl _ _, .inl rfl⟩
theorem PenTo.trans {a b c : World} {base pb : Nat} {v v' v'' : Value} {l l' : List UInt8} (h : PenTo a base pb v l b v') (k : PenTo b base pb v' l' c v'') : PenTo a base pb v l' c v'' := by
  refine ⟨k.pen, h.fr.trans k.fr ?_, ?_⟩
  · intro x hx hS
    rcases hS with hS | hS
    · exact .inl hS
    · rcases h.at_ with e | ⟨g, e, hg⟩
      · exact .inr (by rw [← e]; exact hS)
      · rw [e] at hS
        injection hS with hS
        omega
  · rcases k.at_ with e | ⟨g, e, hg⟩
    · rw [e]; exact h.at_
    · exact .inr ⟨g, e, by have := h.fr.size; omega⟩
/-- new memory ahead of a pen's method -/
theorem PenTo.after {a b c : World} {base pb : Nat} {v v' : Value} {l l' : List UInt8} (h : Pen a base pb v l) (k : Below a.heap.size a b) (h' : PenTo b base pb v l' c v') : PenTo a base pb v l' c v' :=
  (⟨h.below k, Fr.of_below k _, .inl rfl⟩ : PenTo a base pb v l b v).trans h'
/-- the step of all: append onto the buffer, store it back -/
theorem PenTo.stored {a b c : World} {base pb : Nat} {v v' : Value} {l l' : List UInt8} (h : Pen a base pb v l) (k : Below a.heap.size a b) (hown : OwB c base v' l') (hg : b.grownBy c v.ownBlock) (hat : v'.ownBlock = v.ownBlock ∨ v'.ownBlock = some b.heap.size) :
    PenTo a base pb v l' (c.setCell ⟨pb, 0, none⟩ v') v' := by
  have hpb := h.blk.lt
  have hb : Pen b base pb v l := h.below k
  have hblk : Blk c pb 113 #[v] := hb.blk.grown hg hb.ne
  have hne : v'.ownBlock ≠ some pb := hblk.own_ne hown (by decide)
  have f1 : Fr (fun x => x = pb ∨ v.ownBlock = some x) a c := (Fr.of_below k _).trans (Fr.of_grown hg (S := fun x => v.ownBlock = some x) (fun _ _ e => e)) (fun x _ e => .inr e)
  refine ⟨⟨?_, ?_⟩, f1.setCell (fun _ => .inl rfl) _, ?_⟩
  · have := hblk.set_ 0 v'
    simpa using this
  · exact own_fr hown (S := fun x => x = pb) ((Fr.refl (fun x => x = pb) c).setCell (p := ⟨pb, 0, none⟩) (fun _ => rfl) v') (fun g hg' e => hne (by rw [hg', e]))
  · rcases hat with e | e
    · exact .inl e
    · exact .inr ⟨_, e, k.size⟩

theorem hid_take0 {L a d : List UInt8} (h : L = a) : Hid (L = a ++ d.take 0) := by rw [List.take_zero, List.append_nil]; exact h

theorem hid_take {L L' a d : List UInt8} {i : Nat} (h : L = a ++ d.take i) (h' : L' = L ++ [d.getD i 0]) (hi : i < d.length) : Hid (L' = a ++ d.take (i + 1)) := by
  show L' = a ++ d.take (i + 1)
  rw [h', h, List.append_assoc, List.take_succ_eq_append_getElem hi, List.getD_eq_getElem?_getD, List.getElem?_eq_getElem hi]
  rfl

theorem len64_any (n : Nat) (w : World) (hn : n < 18446744073709551616) :
    Calls Try.prog 99 #[.int .u64 n] w fun e w' => ∃ b : Nat, e = .returned (.int .i64 b) ∧ b ≤ 64 ∧ (b + 7) / 8 = (digs n).length ∧ w = w' := by
  refine (Try.bits_Len64 _ _ (by omega) (by omega)).mono ?_
  rintro e w' ⟨rfl, hw⟩
  exact ⟨_, rfl, bitLen_le (by simpa using hn), bitLen_wd (by simpa using hn), hw.symm⟩

set_option maxHeartbeats 400000 in
theorem num_any (base pb : Nat) (v : Value) (l : List UInt8) (n : Nat) (w : World) (hp : Pen w base pb v l) (hbase : base ≤ w.heap.size) (hn : n < 18446744073709551616) (hlen : l.length + 9 ≤ 140737488355328) :
    Calls Try.prog 95 #[.pointer (some ⟨pb, 0, none⟩), .int .u64 n] w fun e w' => e = .returned (.tuple #[]) ∧ ∃ v', PenTo w base pb v (l ++ numB n) w' v' := by
  have hc := hp.cell
  have hf := hp.frozen
  have hpb := hp.blk.lt
  obtain ⟨A, c, rfl, hlc, hcm, hA⟩ := hp.own.form
  go_enter Try.func95, Try.ntmps95
  go_wp2_with fail
  refine (len64_any _ _ hn).mono ?_
  rintro e w' ⟨b, rfl, hb, hw, rfl⟩
  have Hw := Lib.hid hw
  clear hw
  go_wp2_with (at_builtin; refine wpList_append_by rfl (.tmp 14) (.tmp 17) rfl (v := .slice A l.length c) rfl (hp.own.alloc _) rfl (OwB.lit1 w (base := 0) (b := UInt8.ofNat ((b + 7) / 8)) (by rw [bv_ofNat (by omega)]; rfl) (by omega)).rd (by simp; omega) (by simp; omega) ?_; intro L1 A1 c1 w1 hL1 hown hg hat; have hst := PenTo.stored hp ((Below.refl _ _).alloc (Nat.le_refl _) _) hown hg hat; have hc1 : w1.cell? ⟨pb, 0, none⟩ = some (.slice A l.length c) := ((hp.alloc _).blk.grown hg hp.ne).cell 0; have hf1 : w1.frozen? ⟨pb, 0, none⟩ = false := ((hp.alloc _).blk.grown hg hp.ne).frozen 0)
  rw [show ((b : Int) + 7) / 8 = ((digs n).length : Int) by rw [← Hw.out]; omega]
  rw [Hw.out] at hL1
  have hd8 := digs_len n
  generalize w1.setCell ⟨pb, 0, none⟩ (.slice A1 L1.length c1) = w2 at hst ⊢
  clear hown hg hat hc1 hf1
  have HP := Lib.hid hp
  clear hp hc hf hA
  go_loopw [22] (fun iv wr => ∃ (i : Nat) (Li : List UInt8) (Ai : Option Addr) (ci : Nat), i ≤ (digs n).length ∧ iv = .int .i64 (i : Int) ∧ PenTo w base pb (.slice A l.length c) Li wr (.slice Ai Li.length ci) ∧ Hid (Li = (l ++ [UInt8.ofNat (digs n).length]) ++ (digs n).take i)) (fun iv _ => (digs n).length - (intOf iv).toNat)
  case atStart => exact ⟨0, L1, A1, c1, Nat.zero_le _, rfl, hst, hid_take0 hL1.out⟩
  case round =>
    obtain ⟨i, Li, Ai, ci, hi, rfl, hpi, hLi⟩ := hrel
    clear hst
    have hc1 := hpi.pen.cell
    have hf1 := hpi.pen.frozen
    have hsz := hpi.fr.size
    have hpr := hpi.pen.blk.lt
    by_cases hlt : i < (digs n).length
    · go_wp2_with fail
      obtain ⟨k, hk⟩ : ∃ k : Nat, k + 1 + i = (digs n).length := ⟨(digs n).length - 1 - i, by omega⟩
      have w1' : IntKind.i64.wrap (((digs n).length : Int) - 1) = ((digs n).length : Int) - 1 := IntWalk.i64_in _ (by omega)
      have w2' : IntKind.i64.wrap (((digs n).length : Int) - 1 - i) = (k : Int) := by rw [show ((digs n).length : Int) - 1 - i = (k : Int) by omega]; exact IntWalk.i64_in _ (by omega)
      have w3' : IntKind.i64.wrap (8 * (k : Int)) = 8 * (k : Int) := IntWalk.i64_in _ (by omega)
      have w4' : 0 ≤ 8 * (k : Int) := by omega
      have Hk := Lib.hid hk
      clear hk
      have hll : Li.length = (l.length + 1) + i := by rw [hLi.out]; simp; omega
      have Hll := Lib.hid hll
      clear hll
      go_region_law (refine step_append_by rfl (.tmp 29) (.tmp 38) rfl (v := .slice Ai Li.length ci) rfl (hpi.pen.own.alloc _) rfl (OwB.lit1 wr (base := 0) (b := (digs n).getD i 0) (bv_digit hn Hk.out) (by omega)).rd (by have := Hll.out; simp; omega) (by simp; omega) ?_; intro L3 A3 c3 w3 hL3 hown3 hg3 hat3; have hblk3 := (hpi.pen.alloc _).blk.drew.grown hg3 hpi.pen.ne; have hc3 : w3.cell? ⟨pb, 0, none⟩ = some (.slice Ai Li.length ci) := hblk3.cell 0; have hf3 : w3.frozen? ⟨pb, 0, none⟩ = false := hblk3.frozen 0)
      all_goals
        have hst3 := PenTo.stored hpi.pen ((Below.refl _ _).alloc (Nat.le_refl _) _).drew hown3 hg3 hat3
        go_wp2_with fail
        go_roundw
        case rel => exact ⟨i + 1, L3, A3, c3, hlt, by go_num, hpi.trans hst3, hid_take hLi.out hL3.out hlt⟩
        case measure => simp [intOf]; omega
    · have e : i = (digs n).length := by omega
      go_wp2_with fail
      go_end0
      subst e
      refine ⟨rfl, .slice Ai Li.length ci, ?_⟩
      have hL : Li = l ++ numB n := by rw [hLi.out, List.take_length]; simp [numB]
      rw [← hL]
      exact hpi
end Go.Proofs.Ytpbgcbpofhbgbaa
