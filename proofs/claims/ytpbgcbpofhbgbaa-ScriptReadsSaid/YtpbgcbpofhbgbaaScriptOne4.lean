/- script.one at 10, 11: the edits; script.one whole. -/
import Derived.Test.YtpbgcbpofhbgbaaScriptOne3
namespace Go.Proofs.Ytpbgcbpofhbgbaa
open Go.RowKit

set_option maxRecDepth 100000 in
set_option maxHeartbeats 1000000 in
theorem one_10 (g : Nat) (Z : Nat → Prop) (x : Nat) (hx : x < 256) (hc : x % 16 = 10) (l : List UInt8) (w : World) (h : NxAt w g Z l) (hZ : ∀ b, Z b → b < g) :
    Calls Try.prog 52 #[.int .i64 (x : Int), nxF g] w (OneTo w g Z (oneS x l)) := by
  have _hZ := hZ
  obtain ⟨R, hR⟩ : ∃ R, R = oneS x l := ⟨_, rfl⟩
  rw [← hR]
  have HR := Lib.hid hR
  clear hR
  have H := Lib.hid h
  have hg := h.lt
  clear h
  have n10 : ((x : Int) % 16 == 10) = true := by simp; omega
  have n11 : ((x : Int) % 16 == 11) = false := by simp; omega
  have n12 : ((x : Int) % 16 == 12) = false := by simp; omega
  have n13 : ((x : Int) % 16 == 13) = false := by simp; omega
  have n14 : ((x : Int) % 16 == 14) = false := by simp; omega
  have n15 : ((x : Int) % 16 == 15) = false := by simp; omega
  have hz := z_not hZ
  have hu := nx_lt l
  have HN := Lib.hid (fun W (hW : NxAt W g Z l) => next_any g Z l W hW hz)
  obtain rfl : R = ({ k := (3 + (x : Int) % 16 - 10), ek := 1 + ((nx l).1 : Int) % 5, p := pathV (nx (nx l).2).1, t := pathV ((nx (nx l).2).1 / 16), x := dataV (nx l).1 (nx (nx l).2).1 }, (nx (nx l).2).2) := by rw [HR.out]; unfold oneS; rw [if_pos (by omega), show (x : Int) % 16 - 7 = (3 + (x : Int) % 16 - 10) by omega]
  clear HR
  generalize nx l = u at *
  obtain ⟨u, l1⟩ := u
  dsimp only at *

  have hv := nx_lt l1
  have HN2 := Lib.hid (fun W (hW : NxAt W g Z l1) => next_any g Z l1 W hW hz)
  generalize nx l1 = v at *
  obtain ⟨v, l2⟩ := v
  dsimp only at *

  have hP1 := pathV_size v
  have hP2 := pathV_size (v / 16)
  have hD := dataI_len u v (u / 8)
  have HE := Lib.hid (fun W => edited_any u v hu hv W)
  unfold dataV at HE ⊢
  generalize pathV v = P at *
  generalize pathV (v / 16) = Q at *
  generalize dataI u v (u / 8) = D at *
  have hb1 : Below w.heap.size w ((w.alloc (.cells #[.int .i64 0, .int .i64 0, .int .i64 0, .int .i64 0, .int .u32 0, .int .i64 0, .string ⟨#[]⟩, .string ⟨#[]⟩, .slice none 0 0, .slice none 0 0, .slice none 0 0] 57)).alloc (.cells #[.int .i64 (3 + (x : Int) % 16 - 10), .int .i64 0, .int .i64 0, .int .i64 0, .int .u32 0, .int .i64 0, .string ⟨#[]⟩, .string ⟨#[]⟩, .slice none 0 0, .slice none 0 0, .slice none 0 0] 57)) := (by repeat (first | exact Below.refl _ _ | refine Below.alloc ?_ (by simp) _ | refine Below.setCell ?_ (by simp) _ | refine Below.drew ?_))
  have hr1 := (Blk.new w 57 #[.int .i64 0, .int .i64 0, .int .i64 0, .int .i64 0, .int .u32 0, .int .i64 0, .string ⟨#[]⟩, .string ⟨#[]⟩, .slice none 0 0, .slice none 0 0, .slice none 0 0]).alloc (.cells #[.int .i64 (3 + (x : Int) % 16 - 10), .int .i64 0, .int .i64 0, .int .i64 0, .int .u32 0, .int .i64 0, .string ⟨#[]⟩, .string ⟨#[]⟩, .slice none 0 0, .slice none 0 0, .slice none 0 0] 57)
  have ha1 := Blk.new (w.alloc (.cells #[.int .i64 0, .int .i64 0, .int .i64 0, .int .i64 0, .int .u32 0, .int .i64 0, .string ⟨#[]⟩, .string ⟨#[]⟩, .slice none 0 0, .slice none 0 0, .slice none 0 0] 57)) 57 #[.int .i64 (3 + (x : Int) % 16 - 10), .int .i64 0, .int .i64 0, .int .i64 0, .int .u32 0, .int .i64 0, .string ⟨#[]⟩, .string ⟨#[]⟩, .slice none 0 0, .slice none 0 0, .slice none 0 0]
  rw [World.size_alloc] at ha1
  go_enter Try.func52, Try.ntmps52
  go_wp2_with fail
  refine (HN.out _ (H.out.below hb1)).mono ?_
  rintro e w2 ⟨rfl, h2⟩
  have hr2 := hr1.fr h2.fr (by omega)
  have ha2 := ha1.fr h2.fr (by omega)
  go_wp2_with fail
  refine (HN2.out _ h2.at_).mono ?_
  rintro e w3 ⟨rfl, h3⟩
  have hr3 := hr2.fr h3.fr (by omega)
  have ha3 := ha2.fr h3.fr (by omega)
  have hT3 := (NxTo.after hb1 h2).trans h3
  go_wp2_with fail
  refine (HE.out _).mono ?_
  rintro e w4 ⟨A5, c5, L5, rfl, hL5, ho5, hb5⟩
  have hr4 := hr3.below hb5
  have ha4 := ha3.below hb5
  have hT4 := hT3.then_ hb5
  have a0 : w4.cell? ⟨(w.heap.size + 1), 0, none⟩ = some (.int .i64 (3 + (x : Int) % 16 - 10)) := ha4.cell 0
  have b0 := ha4.frozen 0
  have a1 : w4.cell? ⟨(w.heap.size + 1), 1, none⟩ = some (.int .i64 0) := ha4.cell 1
  have b1 := ha4.frozen 1
  have a2 : w4.cell? ⟨(w.heap.size + 1), 2, none⟩ = some (.int .i64 0) := ha4.cell 2
  have b2 := ha4.frozen 2
  have a3 : w4.cell? ⟨(w.heap.size + 1), 3, none⟩ = some (.int .i64 0) := ha4.cell 3
  have b3 := ha4.frozen 3
  have a4 : w4.cell? ⟨(w.heap.size + 1), 4, none⟩ = some (.int .u32 0) := ha4.cell 4
  have b4 := ha4.frozen 4
  have a5 : w4.cell? ⟨(w.heap.size + 1), 5, none⟩ = some (.int .i64 0) := ha4.cell 5
  have b5 := ha4.frozen 5
  have a6 : w4.cell? ⟨(w.heap.size + 1), 6, none⟩ = some (.string ⟨#[]⟩) := ha4.cell 6
  have b6 := ha4.frozen 6
  have a7 : w4.cell? ⟨(w.heap.size + 1), 7, none⟩ = some (.string ⟨#[]⟩) := ha4.cell 7
  have b7 := ha4.frozen 7
  have a8 : w4.cell? ⟨(w.heap.size + 1), 8, none⟩ = some (.slice none 0 0) := ha4.cell 8
  have b8 := ha4.frozen 8
  have a9 : w4.cell? ⟨(w.heap.size + 1), 9, none⟩ = some (.slice none 0 0) := ha4.cell 9
  have b9 := ha4.frozen 9
  have a10 : w4.cell? ⟨(w.heap.size + 1), 10, none⟩ = some (.slice none 0 0) := ha4.cell 10
  have b10 := ha4.frozen 10
  have r0 : w4.cell? ⟨w.heap.size, 0, none⟩ = some (.int .i64 0) := hr4.cell 0
  have z0 := hr4.frozen 0
  have r1 : w4.cell? ⟨w.heap.size, 1, none⟩ = some (.int .i64 0) := hr4.cell 1
  have z1 := hr4.frozen 1
  have r2 : w4.cell? ⟨w.heap.size, 2, none⟩ = some (.int .i64 0) := hr4.cell 2
  have z2 := hr4.frozen 2
  have r3 : w4.cell? ⟨w.heap.size, 3, none⟩ = some (.int .i64 0) := hr4.cell 3
  have z3 := hr4.frozen 3
  have r4 : w4.cell? ⟨w.heap.size, 4, none⟩ = some (.int .u32 0) := hr4.cell 4
  have z4 := hr4.frozen 4
  have r5 : w4.cell? ⟨w.heap.size, 5, none⟩ = some (.int .i64 0) := hr4.cell 5
  have z5 := hr4.frozen 5
  have r6 : w4.cell? ⟨w.heap.size, 6, none⟩ = some (.string ⟨#[]⟩) := hr4.cell 6
  have z6 := hr4.frozen 6
  have r7 : w4.cell? ⟨w.heap.size, 7, none⟩ = some (.string ⟨#[]⟩) := hr4.cell 7
  have z7 := hr4.frozen 7
  have r8 : w4.cell? ⟨w.heap.size, 8, none⟩ = some (.slice none 0 0) := hr4.cell 8
  have z8 := hr4.frozen 8
  have r9 : w4.cell? ⟨w.heap.size, 9, none⟩ = some (.slice none 0 0) := hr4.cell 9
  have z9 := hr4.frozen 9
  have r10 : w4.cell? ⟨w.heap.size, 10, none⟩ = some (.slice none 0 0) := hr4.cell 10
  have z10 := hr4.frozen 10
  have s4 := hT3.fr.size
  go_wp2_with fail
  have hr5 := (((hr4.far (p := ⟨w.heap.size + 1, 5, none⟩) (by simp) (.int .i64 (1 + (u : Int) % 5))).far (p := ⟨w.heap.size + 1, 6, none⟩) (by simp) (.string P)).far (p := ⟨w.heap.size + 1, 7, none⟩) (by simp) (.string Q)).far (p := ⟨w.heap.size + 1, 8, none⟩) (by simp) (.slice A5 L5.length c5)
  have f5 := ((((Fr.refl (fun k => k = w.heap.size + 1) w4).setAt (w.heap.size + 1) 5 rfl (.int .i64 (1 + (u : Int) % 5))).setAt (w.heap.size + 1) 6 rfl (.string P)).setAt (w.heap.size + 1) 7 rfl (.string Q)).setAt (w.heap.size + 1) 8 rfl (.slice A5 L5.length c5)
  have s3 : w.heap.size + 1 < w3.heap.size := ha3.lt
  have hy5 : By w4 (fun b => w3.heap.size ≤ b) A5 L5 := ho5.rd.mono (fun b _ hb => (own_ablk ho5 b hb).1)
  refine act_ret hr5 rfl rfl rfl rfl ?_
  intro V hV fV
  have hy6 := (hy5.fr f5 (fun b _ hb e => by omega)).fr fV (fun b _ hb e => by omega)
  have hL : L5.length ≤ 32 := by rw [hL5.out, hD]; omega
  refine ⟨{ a := { k := (3 + (x : Int) % 16 - 10), ek := 1 + (u : Int) % 5, p := P, t := Q, x := L5 }, xA := A5, xc := c5 }, rfl, ?_, ⟨hy6.mono (fun b _ hb => by omega), Rd.nil, Rd.nil, ?_⟩, (hT4.side f5 (by omega) hZ hg).side fV (Nat.le_refl _) hZ hg⟩
  · show _ = _
    dsimp only
    rw [hL5.out]
  · exact ⟨by dsimp only; omega, by simp, by simp, by simp, by simp, by dsimp only; omega, by dsimp only; omega, by dsimp only; omega, by dsimp only; omega, by simp, by simp, by simp, by simp⟩

set_option maxRecDepth 100000 in
set_option maxHeartbeats 1000000 in
theorem one_11 (g : Nat) (Z : Nat → Prop) (x : Nat) (hx : x < 256) (hc : x % 16 = 11) (l : List UInt8) (w : World) (h : NxAt w g Z l) (hZ : ∀ b, Z b → b < g) :
    Calls Try.prog 52 #[.int .i64 (x : Int), nxF g] w (OneTo w g Z (oneS x l)) := by
  have _hZ := hZ
  obtain ⟨R, hR⟩ : ∃ R, R = oneS x l := ⟨_, rfl⟩
  rw [← hR]
  have HR := Lib.hid hR
  clear hR
  have H := Lib.hid h
  have hg := h.lt
  clear h
  have n10 : ((x : Int) % 16 == 10) = false := by simp; omega
  have n11 : ((x : Int) % 16 == 11) = true := by simp; omega
  have n12 : ((x : Int) % 16 == 12) = false := by simp; omega
  have n13 : ((x : Int) % 16 == 13) = false := by simp; omega
  have n14 : ((x : Int) % 16 == 14) = false := by simp; omega
  have n15 : ((x : Int) % 16 == 15) = false := by simp; omega
  have hz := z_not hZ
  have hu := nx_lt l
  have HN := Lib.hid (fun W (hW : NxAt W g Z l) => next_any g Z l W hW hz)
  obtain rfl : R = ({ k := (3 + (x : Int) % 16 - 10), ek := 1 + ((nx l).1 : Int) % 5, p := pathV (nx (nx l).2).1, t := pathV ((nx (nx l).2).1 / 16), x := dataV (nx l).1 (nx (nx l).2).1 }, (nx (nx l).2).2) := by rw [HR.out]; unfold oneS; rw [if_pos (by omega), show (x : Int) % 16 - 7 = (3 + (x : Int) % 16 - 10) by omega]
  clear HR
  generalize nx l = u at *
  obtain ⟨u, l1⟩ := u
  dsimp only at *

  have hv := nx_lt l1
  have HN2 := Lib.hid (fun W (hW : NxAt W g Z l1) => next_any g Z l1 W hW hz)
  generalize nx l1 = v at *
  obtain ⟨v, l2⟩ := v
  dsimp only at *

  have hP1 := pathV_size v
  have hP2 := pathV_size (v / 16)
  have hD := dataI_len u v (u / 8)
  have HE := Lib.hid (fun W => edited_any u v hu hv W)
  unfold dataV at HE ⊢
  generalize pathV v = P at *
  generalize pathV (v / 16) = Q at *
  generalize dataI u v (u / 8) = D at *
  have hb1 : Below w.heap.size w ((w.alloc (.cells #[.int .i64 0, .int .i64 0, .int .i64 0, .int .i64 0, .int .u32 0, .int .i64 0, .string ⟨#[]⟩, .string ⟨#[]⟩, .slice none 0 0, .slice none 0 0, .slice none 0 0] 57)).alloc (.cells #[.int .i64 (3 + (x : Int) % 16 - 10), .int .i64 0, .int .i64 0, .int .i64 0, .int .u32 0, .int .i64 0, .string ⟨#[]⟩, .string ⟨#[]⟩, .slice none 0 0, .slice none 0 0, .slice none 0 0] 57)) := (by repeat (first | exact Below.refl _ _ | refine Below.alloc ?_ (by simp) _ | refine Below.setCell ?_ (by simp) _ | refine Below.drew ?_))
  have hr1 := (Blk.new w 57 #[.int .i64 0, .int .i64 0, .int .i64 0, .int .i64 0, .int .u32 0, .int .i64 0, .string ⟨#[]⟩, .string ⟨#[]⟩, .slice none 0 0, .slice none 0 0, .slice none 0 0]).alloc (.cells #[.int .i64 (3 + (x : Int) % 16 - 10), .int .i64 0, .int .i64 0, .int .i64 0, .int .u32 0, .int .i64 0, .string ⟨#[]⟩, .string ⟨#[]⟩, .slice none 0 0, .slice none 0 0, .slice none 0 0] 57)
  have ha1 := Blk.new (w.alloc (.cells #[.int .i64 0, .int .i64 0, .int .i64 0, .int .i64 0, .int .u32 0, .int .i64 0, .string ⟨#[]⟩, .string ⟨#[]⟩, .slice none 0 0, .slice none 0 0, .slice none 0 0] 57)) 57 #[.int .i64 (3 + (x : Int) % 16 - 10), .int .i64 0, .int .i64 0, .int .i64 0, .int .u32 0, .int .i64 0, .string ⟨#[]⟩, .string ⟨#[]⟩, .slice none 0 0, .slice none 0 0, .slice none 0 0]
  rw [World.size_alloc] at ha1
  go_enter Try.func52, Try.ntmps52
  go_wp2_with fail
  refine (HN.out _ (H.out.below hb1)).mono ?_
  rintro e w2 ⟨rfl, h2⟩
  have hr2 := hr1.fr h2.fr (by omega)
  have ha2 := ha1.fr h2.fr (by omega)
  go_wp2_with fail
  refine (HN2.out _ h2.at_).mono ?_
  rintro e w3 ⟨rfl, h3⟩
  have hr3 := hr2.fr h3.fr (by omega)
  have ha3 := ha2.fr h3.fr (by omega)
  have hT3 := (NxTo.after hb1 h2).trans h3
  go_wp2_with fail
  refine (HE.out _).mono ?_
  rintro e w4 ⟨A5, c5, L5, rfl, hL5, ho5, hb5⟩
  have hr4 := hr3.below hb5
  have ha4 := ha3.below hb5
  have hT4 := hT3.then_ hb5
  have a0 : w4.cell? ⟨(w.heap.size + 1), 0, none⟩ = some (.int .i64 (3 + (x : Int) % 16 - 10)) := ha4.cell 0
  have b0 := ha4.frozen 0
  have a1 : w4.cell? ⟨(w.heap.size + 1), 1, none⟩ = some (.int .i64 0) := ha4.cell 1
  have b1 := ha4.frozen 1
  have a2 : w4.cell? ⟨(w.heap.size + 1), 2, none⟩ = some (.int .i64 0) := ha4.cell 2
  have b2 := ha4.frozen 2
  have a3 : w4.cell? ⟨(w.heap.size + 1), 3, none⟩ = some (.int .i64 0) := ha4.cell 3
  have b3 := ha4.frozen 3
  have a4 : w4.cell? ⟨(w.heap.size + 1), 4, none⟩ = some (.int .u32 0) := ha4.cell 4
  have b4 := ha4.frozen 4
  have a5 : w4.cell? ⟨(w.heap.size + 1), 5, none⟩ = some (.int .i64 0) := ha4.cell 5
  have b5 := ha4.frozen 5
  have a6 : w4.cell? ⟨(w.heap.size + 1), 6, none⟩ = some (.string ⟨#[]⟩) := ha4.cell 6
  have b6 := ha4.frozen 6
  have a7 : w4.cell? ⟨(w.heap.size + 1), 7, none⟩ = some (.string ⟨#[]⟩) := ha4.cell 7
  have b7 := ha4.frozen 7
  have a8 : w4.cell? ⟨(w.heap.size + 1), 8, none⟩ = some (.slice none 0 0) := ha4.cell 8
  have b8 := ha4.frozen 8
  have a9 : w4.cell? ⟨(w.heap.size + 1), 9, none⟩ = some (.slice none 0 0) := ha4.cell 9
  have b9 := ha4.frozen 9
  have a10 : w4.cell? ⟨(w.heap.size + 1), 10, none⟩ = some (.slice none 0 0) := ha4.cell 10
  have b10 := ha4.frozen 10
  have r0 : w4.cell? ⟨w.heap.size, 0, none⟩ = some (.int .i64 0) := hr4.cell 0
  have z0 := hr4.frozen 0
  have r1 : w4.cell? ⟨w.heap.size, 1, none⟩ = some (.int .i64 0) := hr4.cell 1
  have z1 := hr4.frozen 1
  have r2 : w4.cell? ⟨w.heap.size, 2, none⟩ = some (.int .i64 0) := hr4.cell 2
  have z2 := hr4.frozen 2
  have r3 : w4.cell? ⟨w.heap.size, 3, none⟩ = some (.int .i64 0) := hr4.cell 3
  have z3 := hr4.frozen 3
  have r4 : w4.cell? ⟨w.heap.size, 4, none⟩ = some (.int .u32 0) := hr4.cell 4
  have z4 := hr4.frozen 4
  have r5 : w4.cell? ⟨w.heap.size, 5, none⟩ = some (.int .i64 0) := hr4.cell 5
  have z5 := hr4.frozen 5
  have r6 : w4.cell? ⟨w.heap.size, 6, none⟩ = some (.string ⟨#[]⟩) := hr4.cell 6
  have z6 := hr4.frozen 6
  have r7 : w4.cell? ⟨w.heap.size, 7, none⟩ = some (.string ⟨#[]⟩) := hr4.cell 7
  have z7 := hr4.frozen 7
  have r8 : w4.cell? ⟨w.heap.size, 8, none⟩ = some (.slice none 0 0) := hr4.cell 8
  have z8 := hr4.frozen 8
  have r9 : w4.cell? ⟨w.heap.size, 9, none⟩ = some (.slice none 0 0) := hr4.cell 9
  have z9 := hr4.frozen 9
  have r10 : w4.cell? ⟨w.heap.size, 10, none⟩ = some (.slice none 0 0) := hr4.cell 10
  have z10 := hr4.frozen 10
  have s4 := hT3.fr.size
  go_wp2_with fail
  have hr5 := (((hr4.far (p := ⟨w.heap.size + 1, 5, none⟩) (by simp) (.int .i64 (1 + (u : Int) % 5))).far (p := ⟨w.heap.size + 1, 6, none⟩) (by simp) (.string P)).far (p := ⟨w.heap.size + 1, 7, none⟩) (by simp) (.string Q)).far (p := ⟨w.heap.size + 1, 8, none⟩) (by simp) (.slice A5 L5.length c5)
  have f5 := ((((Fr.refl (fun k => k = w.heap.size + 1) w4).setAt (w.heap.size + 1) 5 rfl (.int .i64 (1 + (u : Int) % 5))).setAt (w.heap.size + 1) 6 rfl (.string P)).setAt (w.heap.size + 1) 7 rfl (.string Q)).setAt (w.heap.size + 1) 8 rfl (.slice A5 L5.length c5)
  have s3 : w.heap.size + 1 < w3.heap.size := ha3.lt
  have hy5 : By w4 (fun b => w3.heap.size ≤ b) A5 L5 := ho5.rd.mono (fun b _ hb => (own_ablk ho5 b hb).1)
  refine act_ret hr5 rfl rfl rfl rfl ?_
  intro V hV fV
  have hy6 := (hy5.fr f5 (fun b _ hb e => by omega)).fr fV (fun b _ hb e => by omega)
  have hL : L5.length ≤ 32 := by rw [hL5.out, hD]; omega
  refine ⟨{ a := { k := (3 + (x : Int) % 16 - 10), ek := 1 + (u : Int) % 5, p := P, t := Q, x := L5 }, xA := A5, xc := c5 }, rfl, ?_, ⟨hy6.mono (fun b _ hb => by omega), Rd.nil, Rd.nil, ?_⟩, (hT4.side f5 (by omega) hZ hg).side fV (Nat.le_refl _) hZ hg⟩
  · show _ = _
    dsimp only
    rw [hL5.out]
  · exact ⟨by dsimp only; omega, by simp, by simp, by simp, by simp, by dsimp only; omega, by dsimp only; omega, by dsimp only; omega, by dsimp only; omega, by simp, by simp, by simp, by simp⟩

theorem one_any (g : Nat) (Z : Nat → Prop) (x : Nat) (hx : x < 256) (l : List UInt8) (w : World) (h : NxAt w g Z l) (hZ : ∀ b, Z b → b < g) :
    Calls Try.prog 52 #[.int .i64 (x : Int), nxF g] w (OneTo w g Z (oneS x l)) := by
  rcases (show x % 16 < 10 ∨ x % 16 = 10 ∨ x % 16 = 11 ∨ x % 16 = 12 ∨ x % 16 = 13 ∨ x % 16 = 14 ∨ x % 16 = 15 by omega) with h1 | h1 | h1 | h1 | h1 | h1 | h1
  · exact one_plain g Z x hx h1 l w h hZ
  · exact one_10 g Z x hx h1 l w h hZ
  · exact one_11 g Z x hx h1 l w h hZ
  · exact one_12 g Z x hx h1 l w h hZ
  · exact one_13 g Z x hx h1 l w h hZ
  · exact one_14 g Z x hx h1 l w h hZ
  · exact one_15 g Z x hx h1 l w h hZ

end Go.Proofs.Ytpbgcbpofhbgbaa
