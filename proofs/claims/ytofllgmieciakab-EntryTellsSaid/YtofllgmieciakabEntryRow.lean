/- entry.Row, Clone. -/
import Derived.Test.YtofllgmieciakabEntryLight
namespace Go.Proofs.Ytofllgmieciakab
open Go.RowKit

/-- an entry's row as a value -/
abbrev rowV (p : ByteArray) (k v : Int) (n : Nat) : Value := .agg #[.string p, .int .i64 k, .int .u64 v, .int .u64 0, .int .i64 n]

set_option maxRecDepth 100000 in
set_option maxHeartbeats 1000000 in
theorem entryRow_any (p : ByteArray) (v k : Int) (A : Option Addr) (n c : Nat) (w : World) :
    Calls Try.prog 37 #[.agg #[.string p, .int .u64 v, .int .i64 k, .slice A n c]] w fun e w' => e = .returned (rowV p k v n) ∧ Below w.heap.size w w' := by
  have b0 := (Blk.new w 58 #[.string p, .int .u64 v, .int .i64 k, .slice A n c]).alloc (.cells #[.string ⟨#[]⟩, .int .i64 0, .int .u64 0, .int .u64 0, .int .i64 0] 64)
  have b1 := Blk.new (w.alloc (.cells #[.string p, .int .u64 v, .int .i64 k, .slice A n c] 58)) 64 #[.string ⟨#[]⟩, .int .i64 0, .int .u64 0, .int .u64 0, .int .i64 0]
  rw [World.size_alloc] at b1
  have hw : Below w.heap.size w ((w.alloc (.cells #[.string p, .int .u64 v, .int .i64 k, .slice A n c] 58)).alloc (.cells #[.string ⟨#[]⟩, .int .i64 0, .int .u64 0, .int .u64 0, .int .i64 0] 64)) := (by repeat (first | exact Below.refl _ _ | refine Below.alloc ?_ (by simp) _ | refine Below.setCell ?_ (by simp) _ | refine Below.drew ?_))
  go_enter Try.func37, Try.ntmps37
  go_wp2_with fail
  generalize (w.alloc (.cells #[.string p, .int .u64 v, .int .i64 k, .slice A n c] 58)).alloc (.cells #[.string ⟨#[]⟩, .int .i64 0, .int .u64 0, .int .u64 0, .int .i64 0] 64) = W at *
  have c0 : W.cell? ⟨w.heap.size, 0, none⟩ = some (.string p) := b0.cell 0
  have c1 : W.cell? ⟨w.heap.size, 1, none⟩ = some (.int .u64 v) := b0.cell 1
  have c2 : W.cell? ⟨w.heap.size, 2, none⟩ = some (.int .i64 k) := b0.cell 2
  have c3 : W.cell? ⟨w.heap.size, 3, none⟩ = some (.slice A n c) := b0.cell 3
  have cd : W.drew.cell? ⟨w.heap.size, 0, none⟩ = some (.string p) ∧ W.drew.cell? ⟨w.heap.size, 1, none⟩ = some (.int .u64 v) ∧ W.drew.cell? ⟨w.heap.size, 2, none⟩ = some (.int .i64 k) ∧ W.drew.cell? ⟨w.heap.size, 3, none⟩ = some (.slice A n c) := ⟨c0, c1, c2, c3⟩
  go_region_held3 (fun w' => w'.cell? ⟨w.heap.size, 0, none⟩ = some (.string p) ∧ w'.cell? ⟨w.heap.size, 1, none⟩ = some (.int .u64 v) ∧ w'.cell? ⟨w.heap.size, 2, none⟩ = some (.int .i64 k) ∧ w'.cell? ⟨w.heap.size, 3, none⟩ = some (.slice A n c))
    (first | (with_reducible assumption) | (with_reducible exact cd) | exact ⟨(((((hb0.far (by simp) _).far (by simp) _).far (by simp) _).far (by simp) _).far (by simp) _).cell 0, (((((hb0.far (by simp) _).far (by simp) _).far (by simp) _).far (by simp) _).far (by simp) _).cell 1, (((((hb0.far (by simp) _).far (by simp) _).far (by simp) _).far (by simp) _).far (by simp) _).cell 2, (((((hb0.far (by simp) _).far (by simp) _).far (by simp) _).far (by simp) _).far (by simp) _).cell 3⟩)
    (first
    | (go_at_call 15; refine (leafSize_any k A n c _).mono ?_; rintro e w1 ⟨rfl, h3⟩; have hb1 : Blk w1 (w.heap.size + 1) 64 #[.string ⟨#[]⟩, .int .i64 0, .int .u64 0, .int .u64 0, .int .i64 0] := b1.drew.below h3; have g0 : w1.cell? ⟨w.heap.size + 1, 0, none⟩ = some (.string ⟨#[]⟩) := hb1.cell 0; have g1 : w1.cell? ⟨w.heap.size + 1, 1, none⟩ = some (.int .i64 0) := hb1.cell 1; have g2 : w1.cell? ⟨w.heap.size + 1, 2, none⟩ = some (.int .u64 0) := hb1.cell 2; have g3 : w1.cell? ⟨w.heap.size + 1, 3, none⟩ = some (.int .u64 0) := hb1.cell 3; have g4 : w1.cell? ⟨w.heap.size + 1, 4, none⟩ = some (.int .i64 0) := hb1.cell 4; have f0 := hb1.frozen 0; have f1 := hb1.frozen 1; have f2 := hb1.frozen 2; have f3 := hb1.frozen 3; have f4 := hb1.frozen 4; have hb0 : Blk w1 w.heap.size 58 #[.string p, .int .u64 v, .int .i64 k, .slice A n c] := b0.drew.below h3; have ed : w1.cell? ⟨w.heap.size, 0, none⟩ = some (.string p) ∧ w1.cell? ⟨w.heap.size, 1, none⟩ = some (.int .u64 v) ∧ w1.cell? ⟨w.heap.size, 2, none⟩ = some (.int .i64 k) ∧ w1.cell? ⟨w.heap.size, 3, none⟩ = some (.slice A n c) := ⟨hb0.cell 0, hb0.cell 1, hb0.cell 2, hb0.cell 3⟩))
  have hs1 := hw.size
  have hlow : Below w.heap.size w w1 := hw.drew.trans (h3.mono hs1)
  have hb2 := ((((hb1.set_ 0 (.string p)).set_ 1 (.int .i64 k)).set_ 2 (.int .u64 v)).set_ 3 (.int .u64 0)).set_ 4 (.int .i64 (n : Int))
  have hf2 : Fr (fun x => x = w.heap.size + 1) w1 (((((w1.setCell ⟨w.heap.size + 1, 0, none⟩ (.string p)).setCell ⟨w.heap.size + 1, 1, none⟩ (.int .i64 k)).setCell ⟨w.heap.size + 1, 2, none⟩ (.int .u64 v)).setCell ⟨w.heap.size + 1, 3, none⟩ (.int .u64 0)).setCell ⟨w.heap.size + 1, 4, none⟩ (.int .i64 (n : Int))) := (((((Fr.refl (fun x => x = w.heap.size + 1) w1).setAt _ 0 rfl _).setAt _ 1 rfl _).setAt _ 2 rfl _).setAt _ 3 rfl _).setAt _ 4 rfl _
  clear b0 b1 c0 c1 c2 c3 g0 g1 g2 g3 g4 f0 f1 f2 f3 f4 ed cd hb0 hb1
  have d0 := hb2.cell 0
  have d1 := hb2.cell 1
  have d2 := hb2.cell 2
  have d3 := hb2.cell 3
  have d4 := hb2.cell 4
  simp at d0 d1 d2 d3 d4
  have hlow2 := hlow.trans (hf2.below (B := w.heap.size) (by have := h3.size; simp at this; omega) (by intro k hk e; omega))
  clear hb2 hf2 hlow
  generalize ((((w1.setCell ⟨w.heap.size + 1, 0, none⟩ (.string p)).setCell ⟨w.heap.size + 1, 1, none⟩ (.int .i64 k)).setCell ⟨w.heap.size + 1, 2, none⟩ (.int .u64 v)).setCell ⟨w.heap.size + 1, 3, none⟩ (.int .u64 0)).setCell ⟨w.heap.size + 1, 4, none⟩ (.int .i64 (n : Int)) = V at *
  go_wp2_with fail
  refine bodyPost_ret (v := rowV p k v n) (by simp [results, Try.results37, go_sem, d0, d1, d2, d3, d4]) rfl ?_
  exact ⟨rfl, hlow2⟩

set_option maxRecDepth 100000 in
set_option maxHeartbeats 1000000 in
theorem entryClone_any (p : ByteArray) (v k : Int) (A : Option Addr) (c : Nat) (l : List UInt8) (Z : Nat → Prop) (w : World) (h : By w Z A l) (hlen : l.length ≤ 140737488355328) :
    Calls Try.prog 38 #[.agg #[.string p, .int .u64 v, .int .i64 k, .slice A l.length c]] w fun e w' => ∃ (A' : Option Addr) (c' : Nat) (l' : List UInt8), e = .returned (.agg #[.string p, .int .u64 v, .int .i64 k, .slice A' l'.length c']) ∧ Hid (l' = l) ∧ OwB w' w.heap.size (.slice A' l'.length c') l' ∧ Below w.heap.size w w' := by
  have b0 := (Blk.new w 58 #[.string p, .int .u64 v, .int .i64 k, .slice A l.length c]).alloc (.cells #[.string ⟨#[]⟩, .int .u64 0, .int .i64 0, .slice none 0 0] 58)
  have b1 := Blk.new (w.alloc (.cells #[.string p, .int .u64 v, .int .i64 k, .slice A l.length c] 58)) 58 #[.string ⟨#[]⟩, .int .u64 0, .int .i64 0, .slice none 0 0]
  rw [World.size_alloc] at b1
  have hw : Below w.heap.size w ((w.alloc (.cells #[.string p, .int .u64 v, .int .i64 k, .slice A l.length c] 58)).alloc (.cells #[.string ⟨#[]⟩, .int .u64 0, .int .i64 0, .slice none 0 0] 58)) := (by repeat (first | exact Below.refl _ _ | refine Below.alloc ?_ (by simp) _ | refine Below.setCell ?_ (by simp) _ | refine Below.drew ?_))
  have hy := (h.alloc (.cells #[.string p, .int .u64 v, .int .i64 k, .slice A l.length c] 58)).alloc (.cells #[.string ⟨#[]⟩, .int .u64 0, .int .i64 0, .slice none 0 0] 58)
  have hz : ((w.alloc (.cells #[.string p, .int .u64 v, .int .i64 k, .slice A l.length c] 58)).alloc (.cells #[.string ⟨#[]⟩, .int .u64 0, .int .i64 0, .slice none 0 0] 58)).heap.size = w.heap.size + 2 := by simp
  go_enter Try.func38, Try.ntmps38
  go_wp2_with fail
  generalize (w.alloc (.cells #[.string p, .int .u64 v, .int .i64 k, .slice A l.length c] 58)).alloc (.cells #[.string ⟨#[]⟩, .int .u64 0, .int .i64 0, .slice none 0 0] 58) = W at *
  have hs := hw.size
  refine (leafClone_any k A c l Z W hy hlen).mono ?_
  rintro e w1 ⟨A', c', l', rfl, hl', ho, hb⟩
  have hb0 := b0.below hb
  have hb1 := b1.below hb
  have hlow : Below w.heap.size w w1 := hw.trans (hb.mono hs)
  have hsw1 := hb.size
  have g0 : w1.cell? ⟨w.heap.size, 0, none⟩ = some (.string p) := hb0.cell 0
  have g1 : w1.cell? ⟨w.heap.size, 1, none⟩ = some (.int .u64 v) := hb0.cell 1
  have g2 : w1.cell? ⟨w.heap.size, 2, none⟩ = some (.int .i64 k) := hb0.cell 2
  have g3 : w1.cell? ⟨w.heap.size, 3, none⟩ = some (.slice A l.length c) := hb0.cell 3
  have f2 := hb0.frozen 2
  have f3 := hb0.frozen 3
  have hb2 := (hb0.set_ 2 (.int .i64 k)).set_ 3 (.slice A' l'.length c')
  have hf2 : Fr (fun x => x = w.heap.size) w1 ((w1.setCell ⟨w.heap.size, 2, none⟩ (.int .i64 k)).setCell ⟨w.heap.size, 3, none⟩ (.slice A' l'.length c')) := ((Fr.refl (fun x => x = w.heap.size) w1).setAt _ 2 rfl _).setAt _ 3 rfl _
  have k0 : w1.cell? ⟨w.heap.size + 1, 0, none⟩ = some (.string ⟨#[]⟩) := hb1.cell 0
  have k1 : w1.cell? ⟨w.heap.size + 1, 1, none⟩ = some (.int .u64 0) := hb1.cell 1
  have k2 : w1.cell? ⟨w.heap.size + 1, 2, none⟩ = some (.int .i64 0) := hb1.cell 2
  have k3 : w1.cell? ⟨w.heap.size + 1, 3, none⟩ = some (.slice none 0 0) := hb1.cell 3
  have m0 := hb1.frozen 0
  have m1 := hb1.frozen 1
  have m2 := hb1.frozen 2
  have m3 := hb1.frozen 3
  go_wp2_with fail
  have hb12 := (((((hb1.far (p := ⟨w.heap.size, 2, none⟩) (by simp) (.int .i64 k)).far (p := ⟨w.heap.size, 3, none⟩) (by simp) (.slice A' l'.length c')).set_ 0 (.string p)).set_ 1 (.int .u64 v)).set_ 2 (.int .i64 k)).set_ 3 (.slice A' l'.length c')
  have hf3 : Fr (fun x => x = w.heap.size ∨ x = w.heap.size + 1) w1 ((((((w1.setCell ⟨w.heap.size, 2, none⟩ (.int .i64 k)).setCell ⟨w.heap.size, 3, none⟩ (.slice A' l'.length c')).setCell ⟨w.heap.size + 1, 0, none⟩ (.string p)).setCell ⟨w.heap.size + 1, 1, none⟩ (.int .u64 v)).setCell ⟨w.heap.size + 1, 2, none⟩ (.int .i64 k)).setCell ⟨w.heap.size + 1, 3, none⟩ (.slice A' l'.length c')) :=
    ((((((Fr.refl (fun x => x = w.heap.size ∨ x = w.heap.size + 1) w1).setAt _ 2 (.inl rfl) _).setAt _ 3 (.inl rfl) _).setAt _ 0 (.inr rfl) _).setAt _ 1 (.inr rfl) _).setAt _ 2 (.inr rfl) _).setAt _ 3 (.inr rfl) _
  have ho2 := ho.fr hf3 (fun g hg e => by have := (ho.lt g hg).1; omega)
  have hlow2 := hlow.trans (hf3.below (B := w.heap.size) (by omega) (by intro k hk e; omega))
  have d0 := hb12.cell 0
  have d1 := hb12.cell 1
  have d2 := hb12.cell 2
  have d3 := hb12.cell 3
  simp at d0 d1 d2 d3
  clear hb12 hf3 hf2 hb2
  generalize (((((w1.setCell ⟨w.heap.size, 2, none⟩ (.int .i64 k)).setCell ⟨w.heap.size, 3, none⟩ (.slice A' l'.length c')).setCell ⟨w.heap.size + 1, 0, none⟩ (.string p)).setCell ⟨w.heap.size + 1, 1, none⟩ (.int .u64 v)).setCell ⟨w.heap.size + 1, 2, none⟩ (.int .i64 k)).setCell ⟨w.heap.size + 1, 3, none⟩ (.slice A' l'.length c') = V at *
  refine bodyPost_ret (v := .agg #[.string p, .int .u64 v, .int .i64 k, .slice A' l'.length c']) (by simp [results, Try.results38, go_sem, d0, d1, d2, d3]) rfl ?_
  exact ⟨A', c', l', rfl, hl', own_base ho2 (fun g hg => Nat.le_trans hs (ho.lt _ hg).1), hlow2⟩
end Go.Proofs.Ytofllgmieciakab
