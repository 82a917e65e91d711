/- script.one, the rest: the acts of two bytes more. -/
import Derived.Test.YtpbgcbpofhbgbaaScriptOne
namespace Go.Proofs.Ytpbgcbpofhbgbaa
open Go.RowKit

set_option maxRecDepth 100000 in
set_option maxHeartbeats 1000000 in
theorem one_13 (g : Nat) (Z : Nat → Prop) (x : Nat) (hx : x < 256) (h13 : x % 16 = 13) (l : List UInt8) (w : World) (h : NxAt w g Z l) (hZ : ∀ b, Z b → b < g) :
    Calls Try.prog 52 #[.int .i64 (x : Int), nxF g] w (OneTo w g Z (oneS x l)) := by
  have _hZ := hZ
  obtain ⟨R, hR⟩ : ∃ R, R = oneS x l := ⟨_, rfl⟩
  rw [← hR]
  have HR := Lib.hid hR
  clear hR
  have H := Lib.hid h
  have hg := h.lt
  clear h
  have n10 : ((x : Int) % 16 == 10) = false := by simp; omega
  have n11 : ((x : Int) % 16 == 11) = false := by simp; omega
  have n12 : ((x : Int) % 16 == 12) = false := by simp; omega
  have n13 : ((x : Int) % 16 == 13) = true := by simp; omega
  have n14 : ((x : Int) % 16 == 14) = false := by simp; omega
  have n15 : ((x : Int) % 16 == 15) = false := by simp; omega
  have hz := z_not hZ
  have hu := nx_lt l
  have HN := Lib.hid (fun W (hW : NxAt W g Z l) => next_any g Z l W hW hz)
  obtain rfl : R = ({ k := 8 + (x : Int) / 16 % 2, n := ((nx l).1 : Int) % 16, kl := [⟨((nx l).1 : Int) / 16, ((nx (nx l).2).1 : Int)⟩] }, (nx (nx l).2).2) := by rw [HR.out]; unfold oneS; rw [if_neg (by omega), if_neg (by omega), if_pos h13]
  clear HR
  generalize nx l = u at *
  obtain ⟨u, l1⟩ := u
  dsimp only at *

  have hv := nx_lt l1
  have HN2 := Lib.hid (fun W (hW : NxAt W g Z l1) => next_any g Z l1 W hW hz)
  generalize nx l1 = v at *
  obtain ⟨v, l2⟩ := v
  dsimp only at *

  have hb1 : Below w.heap.size w (w.alloc (.cells #[.int .i64 0, .int .i64 0, .int .i64 0, .int .i64 0, .int .u32 0, .int .i64 0, .string ⟨#[]⟩, .string ⟨#[]⟩, .slice none 0 0, .slice none 0 0, .slice none 0 0] 57)) := (by repeat (first | exact Below.refl _ _ | refine Below.alloc ?_ (by simp) _ | refine Below.setCell ?_ (by simp) _ | refine Below.drew ?_))
  have hr1 := Blk.new w 57 #[.int .i64 0, .int .i64 0, .int .i64 0, .int .i64 0, .int .u32 0, .int .i64 0, .string ⟨#[]⟩, .string ⟨#[]⟩, .slice none 0 0, .slice none 0 0, .slice none 0 0]
  go_enter Try.func52, Try.ntmps52
  go_wp2_with fail
  refine (HN.out _ (H.out.below hb1)).mono ?_
  rintro e w2 ⟨rfl, h2⟩
  have hr2 := hr1.fr h2.fr (by omega)
  go_wp2_with fail
  refine (HN2.out _ h2.at_).mono ?_
  rintro e w3 ⟨rfl, h3⟩
  have hr3 := hr2.fr h3.fr (by omega)
  have r0 : w3.cell? ⟨w.heap.size, 0, none⟩ = some (.int .i64 0) := hr3.cell 0
  have z0 := hr3.frozen 0
  have r1 : w3.cell? ⟨w.heap.size, 1, none⟩ = some (.int .i64 0) := hr3.cell 1
  have z1 := hr3.frozen 1
  have r2 : w3.cell? ⟨w.heap.size, 2, none⟩ = some (.int .i64 0) := hr3.cell 2
  have z2 := hr3.frozen 2
  have r3 : w3.cell? ⟨w.heap.size, 3, none⟩ = some (.int .i64 0) := hr3.cell 3
  have z3 := hr3.frozen 3
  have r4 : w3.cell? ⟨w.heap.size, 4, none⟩ = some (.int .u32 0) := hr3.cell 4
  have z4 := hr3.frozen 4
  have r5 : w3.cell? ⟨w.heap.size, 5, none⟩ = some (.int .i64 0) := hr3.cell 5
  have z5 := hr3.frozen 5
  have r6 : w3.cell? ⟨w.heap.size, 6, none⟩ = some (.string ⟨#[]⟩) := hr3.cell 6
  have z6 := hr3.frozen 6
  have r7 : w3.cell? ⟨w.heap.size, 7, none⟩ = some (.string ⟨#[]⟩) := hr3.cell 7
  have z7 := hr3.frozen 7
  have r8 : w3.cell? ⟨w.heap.size, 8, none⟩ = some (.slice none 0 0) := hr3.cell 8
  have z8 := hr3.frozen 8
  have r9 : w3.cell? ⟨w.heap.size, 9, none⟩ = some (.slice none 0 0) := hr3.cell 9
  have z9 := hr3.frozen 9
  have r10 : w3.cell? ⟨w.heap.size, 10, none⟩ = some (.slice none 0 0) := hr3.cell 10
  have z10 := hr3.frozen 10
  have s1 := hr3.lt
  go_wp2_with fail
  refine act_ret_new hr3 rfl rfl rfl rfl ?_
  intro V hV fV hsV
  have hT := ((NxTo.after hb1 h2).trans h3).side fV (Nat.le_refl _) hZ hg
  refine ⟨{ a := { k := 8 + (x : Int) / 16 % 2, n := (u : Int) % 16, kl := [⟨(u : Int) / 16, (v : Int)⟩] }, kA := some ⟨w3.heap.size, 0, none⟩, kc := 1 }, rfl, rfl, ⟨Rd.nil, (Rd.lit (xs := [.int .i64 ((u : Int) / 16), .int .i64 (v : Int)]) rfl rfl hsV.symm).mono (fun b _ hb => by omega), Rd.nil, ?_⟩, hT.then_ ((Below.refl _ _).alloc (Nat.le_refl _) _)⟩
  exact ⟨by dsimp only; omega, by simp, by dsimp only; omega, by simp, by simp, by simp, Nat.zero_le _, Nat.zero_le _, by simp, by simp, by simp, by simp; omega, by simp⟩

end Go.Proofs.Ytpbgcbpofhbgbaa
