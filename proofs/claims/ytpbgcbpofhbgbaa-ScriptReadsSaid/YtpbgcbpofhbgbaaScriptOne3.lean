/- script.one at 12: what happens to frames. -/
import Derived.Test.YtpbgcbpofhbgbaaScriptOne2
namespace Go.Proofs.Ytpbgcbpofhbgbaa
open Go.RowKit

theorem u32_in {n : Int} (h : 0 ≤ n ∧ n < 4294967296) : IntKind.u32.wrap n = n := by
  simp [IntKind.wrap, IntKind.bits, IntKind.signed]
  omega
set_option maxRecDepth 100000 in
set_option maxHeartbeats 1000000 in
theorem one_12 (g : Nat) (Z : Nat → Prop) (x : Nat) (hx : x < 256) (h12 : x % 16 = 12) (l : List UInt8) (w : World) (h : NxAt w g Z l) (hZ : ∀ b, Z b → b < g) :
    Calls Try.prog 52 #[.int .i64 (x : Int), nxF g] w (OneTo w g Z (oneS x l)) := by
  have _hZ := hZ
  obtain ⟨R, hR⟩ : ∃ R, R = oneS x l := ⟨_, rfl⟩
  rw [← hR]
  have HR := Lib.hid hR
  clear hR
  have H := Lib.hid h
  have hg := h.lt
  clear h
  have n10 : ((x : Int) % 16 == 10) = false := by simp; omega
  have n11 : ((x : Int) % 16 == 11) = false := by simp; omega
  have n12 : ((x : Int) % 16 == 12) = true := by simp; omega
  have n13 : ((x : Int) % 16 == 13) = false := by simp; omega
  have n14 : ((x : Int) % 16 == 14) = false := by simp; omega
  have n15 : ((x : Int) % 16 == 15) = false := by simp; omega
  rcases (show x / 16 % 4 = 0 ∨ x / 16 % 4 = 1 ∨ x / 16 % 4 = 2 ∨ x / 16 % 4 = 3 by omega) with hq | hq | hq | hq
  · have hk : (if x / 16 % 4 = 0 then (5 : Int) else if x / 16 % 4 = 1 then 6 else 7) = 5 := by rw [hq]; rfl
    have hq2 : (x : Int) / 16 % 4 = 0 := by omega
    have hz := z_not hZ
    have hu := nx_lt l
    have HN := Lib.hid (fun W (hW : NxAt W g Z l) => next_any g Z l W hW hz)
    obtain rfl : R = ({ k := 5, s := 1 + (x : Int) / 128, n := ((nx l).1 : Int), b := 3 * ((nx l).1 : Int), m := 1 + 256 * ((nx (nx l).2).1 : Int) }, (nx (nx l).2).2) := by rw [HR.out]; unfold oneS; rw [if_neg (by omega), if_pos h12, hk]
    clear HR
    generalize nx l = u at *
    obtain ⟨u, l1⟩ := u
    dsimp only at *
    have hv := nx_lt l1
    have HN2 := Lib.hid (fun W (hW : NxAt W g Z l1) => next_any g Z l1 W hW hz)
    generalize nx l1 = v at *
    obtain ⟨v, l2⟩ := v
    dsimp only at *
    have hb1 : Below w.heap.size w ((w.alloc (.cells #[.int .i64 0, .int .i64 0, .int .i64 0, .int .i64 0, .int .u32 0, .int .i64 0, .string ⟨#[]⟩, .string ⟨#[]⟩, .slice none 0 0, .slice none 0 0, .slice none 0 0] 57)).alloc (.cells #[.int .i64 5, .int .i64 (1 + (x : Int) / 128), .int .i64 0, .int .i64 0, .int .u32 0, .int .i64 0, .string ⟨#[]⟩, .string ⟨#[]⟩, .slice none 0 0, .slice none 0 0, .slice none 0 0] 57)) := (by repeat (first | exact Below.refl _ _ | refine Below.alloc ?_ (by simp) _ | refine Below.setCell ?_ (by simp) _ | refine Below.drew ?_))
    have hr1 := (Blk.new w 57 #[.int .i64 0, .int .i64 0, .int .i64 0, .int .i64 0, .int .u32 0, .int .i64 0, .string ⟨#[]⟩, .string ⟨#[]⟩, .slice none 0 0, .slice none 0 0, .slice none 0 0]).alloc (.cells #[.int .i64 5, .int .i64 (1 + (x : Int) / 128), .int .i64 0, .int .i64 0, .int .u32 0, .int .i64 0, .string ⟨#[]⟩, .string ⟨#[]⟩, .slice none 0 0, .slice none 0 0, .slice none 0 0] 57)
    have ha1 := Blk.new (w.alloc (.cells #[.int .i64 0, .int .i64 0, .int .i64 0, .int .i64 0, .int .u32 0, .int .i64 0, .string ⟨#[]⟩, .string ⟨#[]⟩, .slice none 0 0, .slice none 0 0, .slice none 0 0] 57)) 57 #[.int .i64 5, .int .i64 (1 + (x : Int) / 128), .int .i64 0, .int .i64 0, .int .u32 0, .int .i64 0, .string ⟨#[]⟩, .string ⟨#[]⟩, .slice none 0 0, .slice none 0 0, .slice none 0 0]
    rw [World.size_alloc] at ha1
    have hw1 : IntKind.i64.wrap (3 * (u : Int)) = 3 * (u : Int) := IntWalk.i64_in _ (by omega)
    have hidx : ∀ W, (Instr.index 128 (.agg #[.int .i64 5, .int .i64 6, .int .i64 7, .int .i64 7]) (.int .i64 0)).run Try.prog W = .ok (.int .i64 5) W := fun W => by kernel_rfl
    have hw2 : IntKind.u32.wrap (v : Int) = (v : Int) := u32_in (by omega)
    have hw3 : IntKind.u32.wrap (256 * (v : Int)) = 256 * (v : Int) := u32_in (by omega)
    have hw4 : IntKind.u32.wrap (1 + 256 * (v : Int)) = 1 + 256 * (v : Int) := u32_in (by omega)
    clear hk
    go_enter Try.func52, Try.ntmps52
    go_wp2_with fail
    refine (HN.out _ (H.out.below hb1)).mono ?_
    rintro e w2 ⟨rfl, h2⟩
    have hr2 := hr1.fr h2.fr (by omega)
    have ha2 := (ha1.fr h2.fr (by omega)).set_ 2 (.int .i64 (u : Int))
    simp only [List.setIfInBounds_toArray, List.set_cons_zero, List.set_cons_succ] at ha2
    have hr3 := hr2.far (p := ⟨w.heap.size + 1, 2, none⟩) (by simp) (.int .i64 (u : Int))
    have f2 := (Fr.refl (fun k => k = w.heap.size + 1) w2).setAt (w.heap.size + 1) 2 rfl (.int .i64 (u : Int))
    have x2 : w2.cell? ⟨w.heap.size + 1, 2, none⟩ = some (.int .i64 0) := (ha1.fr h2.fr (by omega)).cell 2
    have y2 : w2.frozen? ⟨w.heap.size + 1, 2, none⟩ = false := (ha1.fr h2.fr (by omega)).frozen 2
    have hT2 := (NxTo.after hb1 h2).side f2 (by omega) hZ hg
    go_wp2_with fail
    generalize w2.setCell ⟨w.heap.size + 1, 2, none⟩ (.int .i64 (u : Int)) = w3 at *
    have e2 : w3.cell? ⟨w.heap.size + 1, 2, none⟩ = some (.int .i64 (u : Int)) := ha2.cell 2
    go_region_with (go_at_call 51; refine (HN2.out w3.drew (hT2.at_.below (Below.refl _ _).drew)).mono ?_; rintro e w4 ⟨rfl, h4⟩; have ha4 := ha2.drew.fr h4.fr (by omega); have hr4 := hr3.drew.fr h4.fr (by omega); have hT4 := (hT2.then_ (Below.refl _ _).drew).trans h4; have g2 : w4.cell? ⟨w.heap.size + 1, 2, none⟩ = some (.int .i64 (u : Int)) := ha4.cell 2; have g3 : w4.cell? ⟨w.heap.size + 1, 3, none⟩ = some (.int .i64 0) := ha4.cell 3; have g4 : w4.cell? ⟨w.heap.size + 1, 4, none⟩ = some (.int .u32 0) := ha4.cell 4; have k3 := ha4.frozen 3; have k4 := ha4.frozen 4)
    all_goals
      have ha5 := (ha4.set_ 3 (.int .i64 (3 * (u : Int)))).set_ 4 (.int .u32 (1 + 256 * (v : Int)))
      simp only [List.setIfInBounds_toArray, List.set_cons_zero, List.set_cons_succ] at ha5
      have hr5 := (hr4.far (p := ⟨w.heap.size + 1, 3, none⟩) (by simp) (.int .i64 (3 * (u : Int)))).far (p := ⟨w.heap.size + 1, 4, none⟩) (by simp) (.int .u32 (1 + 256 * (v : Int)))
      have f5 := ((Fr.refl (fun k => k = w.heap.size + 1) w4).setAt (w.heap.size + 1) 3 rfl (.int .i64 (3 * (u : Int)))).setAt (w.heap.size + 1) 4 rfl (.int .u32 (1 + 256 * (v : Int)))
      have hT5 := hT4.side f5 (by omega) hZ hg
      generalize (w4.setCell ⟨w.heap.size + 1, 3, none⟩ (.int .i64 (3 * (u : Int)))).setCell ⟨w.heap.size + 1, 4, none⟩ (.int .u32 (1 + 256 * (v : Int))) = w5 at *
      have r0 : w5.cell? ⟨w.heap.size, 0, none⟩ = some (.int .i64 0) := hr5.cell 0
      have z0 := hr5.frozen 0
      have r1 : w5.cell? ⟨w.heap.size, 1, none⟩ = some (.int .i64 0) := hr5.cell 1
      have z1 := hr5.frozen 1
      have r2 : w5.cell? ⟨w.heap.size, 2, none⟩ = some (.int .i64 0) := hr5.cell 2
      have z2 := hr5.frozen 2
      have r3 : w5.cell? ⟨w.heap.size, 3, none⟩ = some (.int .i64 0) := hr5.cell 3
      have z3 := hr5.frozen 3
      have r4 : w5.cell? ⟨w.heap.size, 4, none⟩ = some (.int .u32 0) := hr5.cell 4
      have z4 := hr5.frozen 4
      have r5 : w5.cell? ⟨w.heap.size, 5, none⟩ = some (.int .i64 0) := hr5.cell 5
      have z5 := hr5.frozen 5
      have r6 : w5.cell? ⟨w.heap.size, 6, none⟩ = some (.string ⟨#[]⟩) := hr5.cell 6
      have z6 := hr5.frozen 6
      have r7 : w5.cell? ⟨w.heap.size, 7, none⟩ = some (.string ⟨#[]⟩) := hr5.cell 7
      have z7 := hr5.frozen 7
      have r8 : w5.cell? ⟨w.heap.size, 8, none⟩ = some (.slice none 0 0) := hr5.cell 8
      have z8 := hr5.frozen 8
      have r9 : w5.cell? ⟨w.heap.size, 9, none⟩ = some (.slice none 0 0) := hr5.cell 9
      have z9 := hr5.frozen 9
      have r10 : w5.cell? ⟨w.heap.size, 10, none⟩ = some (.slice none 0 0) := hr5.cell 10
      have z10 := hr5.frozen 10
      have a0 : w5.cell? ⟨(w.heap.size + 1), 0, none⟩ = some (.int .i64 5) := ha5.cell 0
      have b0 := ha5.frozen 0
      have a1 : w5.cell? ⟨(w.heap.size + 1), 1, none⟩ = some (.int .i64 (1 + (x : Int) / 128)) := ha5.cell 1
      have b1 := ha5.frozen 1
      have a2 : w5.cell? ⟨(w.heap.size + 1), 2, none⟩ = some (.int .i64 (u : Int)) := ha5.cell 2
      have b2 := ha5.frozen 2
      have a3 : w5.cell? ⟨(w.heap.size + 1), 3, none⟩ = some (.int .i64 (3 * (u : Int))) := ha5.cell 3
      have b3 := ha5.frozen 3
      have a4 : w5.cell? ⟨(w.heap.size + 1), 4, none⟩ = some (.int .u32 (1 + 256 * (v : Int))) := ha5.cell 4
      have b4 := ha5.frozen 4
      have a5 : w5.cell? ⟨(w.heap.size + 1), 5, none⟩ = some (.int .i64 0) := ha5.cell 5
      have b5 := ha5.frozen 5
      have a6 : w5.cell? ⟨(w.heap.size + 1), 6, none⟩ = some (.string ⟨#[]⟩) := ha5.cell 6
      have b6 := ha5.frozen 6
      have a7 : w5.cell? ⟨(w.heap.size + 1), 7, none⟩ = some (.string ⟨#[]⟩) := ha5.cell 7
      have b7 := ha5.frozen 7
      have a8 : w5.cell? ⟨(w.heap.size + 1), 8, none⟩ = some (.slice none 0 0) := ha5.cell 8
      have b8 := ha5.frozen 8
      have a9 : w5.cell? ⟨(w.heap.size + 1), 9, none⟩ = some (.slice none 0 0) := ha5.cell 9
      have b9 := ha5.frozen 9
      have a10 : w5.cell? ⟨(w.heap.size + 1), 10, none⟩ = some (.slice none 0 0) := ha5.cell 10
      have b10 := ha5.frozen 10
      go_wp2_with fail
      refine act_ret hr5 rfl rfl rfl rfl ?_
      intro V hV fV
      exact ⟨{ a := { k := 5, s := 1 + (x : Int) / 128, n := (u : Int), b := 3 * (u : Int), m := 1 + 256 * (v : Int) } }, rfl, rfl, ⟨Rd.nil, Rd.nil, Rd.nil, ⟨by simp, by dsimp only; omega, by dsimp only; omega, by dsimp only; omega, by dsimp only; omega, by simp, Nat.zero_le _, Nat.zero_le _, by simp, by simp, by simp, by simp, by simp⟩⟩, hT5.side fV (Nat.le_refl _) hZ hg⟩

  · have hk : (if x / 16 % 4 = 0 then (5 : Int) else if x / 16 % 4 = 1 then 6 else 7) = 6 := by rw [hq]; rfl
    have hq2 : (x : Int) / 16 % 4 = 1 := by omega
    have hz := z_not hZ
    have hu := nx_lt l
    have HN := Lib.hid (fun W (hW : NxAt W g Z l) => next_any g Z l W hW hz)
    obtain rfl : R = ({ k := 6, s := 1 + (x : Int) / 128, n := ((nx l).1 : Int), b := 3 * ((nx l).1 : Int), m := 1 + 256 * ((nx (nx l).2).1 : Int) }, (nx (nx l).2).2) := by rw [HR.out]; unfold oneS; rw [if_neg (by omega), if_pos h12, hk]
    clear HR
    generalize nx l = u at *
    obtain ⟨u, l1⟩ := u
    dsimp only at *
    have hv := nx_lt l1
    have HN2 := Lib.hid (fun W (hW : NxAt W g Z l1) => next_any g Z l1 W hW hz)
    generalize nx l1 = v at *
    obtain ⟨v, l2⟩ := v
    dsimp only at *
    have hb1 : Below w.heap.size w ((w.alloc (.cells #[.int .i64 0, .int .i64 0, .int .i64 0, .int .i64 0, .int .u32 0, .int .i64 0, .string ⟨#[]⟩, .string ⟨#[]⟩, .slice none 0 0, .slice none 0 0, .slice none 0 0] 57)).alloc (.cells #[.int .i64 6, .int .i64 (1 + (x : Int) / 128), .int .i64 0, .int .i64 0, .int .u32 0, .int .i64 0, .string ⟨#[]⟩, .string ⟨#[]⟩, .slice none 0 0, .slice none 0 0, .slice none 0 0] 57)) := (by repeat (first | exact Below.refl _ _ | refine Below.alloc ?_ (by simp) _ | refine Below.setCell ?_ (by simp) _ | refine Below.drew ?_))
    have hr1 := (Blk.new w 57 #[.int .i64 0, .int .i64 0, .int .i64 0, .int .i64 0, .int .u32 0, .int .i64 0, .string ⟨#[]⟩, .string ⟨#[]⟩, .slice none 0 0, .slice none 0 0, .slice none 0 0]).alloc (.cells #[.int .i64 6, .int .i64 (1 + (x : Int) / 128), .int .i64 0, .int .i64 0, .int .u32 0, .int .i64 0, .string ⟨#[]⟩, .string ⟨#[]⟩, .slice none 0 0, .slice none 0 0, .slice none 0 0] 57)
    have ha1 := Blk.new (w.alloc (.cells #[.int .i64 0, .int .i64 0, .int .i64 0, .int .i64 0, .int .u32 0, .int .i64 0, .string ⟨#[]⟩, .string ⟨#[]⟩, .slice none 0 0, .slice none 0 0, .slice none 0 0] 57)) 57 #[.int .i64 6, .int .i64 (1 + (x : Int) / 128), .int .i64 0, .int .i64 0, .int .u32 0, .int .i64 0, .string ⟨#[]⟩, .string ⟨#[]⟩, .slice none 0 0, .slice none 0 0, .slice none 0 0]
    rw [World.size_alloc] at ha1
    have hw1 : IntKind.i64.wrap (3 * (u : Int)) = 3 * (u : Int) := IntWalk.i64_in _ (by omega)
    have hidx : ∀ W, (Instr.index 128 (.agg #[.int .i64 5, .int .i64 6, .int .i64 7, .int .i64 7]) (.int .i64 1)).run Try.prog W = .ok (.int .i64 6) W := fun W => by kernel_rfl
    have hw2 : IntKind.u32.wrap (v : Int) = (v : Int) := u32_in (by omega)
    have hw3 : IntKind.u32.wrap (256 * (v : Int)) = 256 * (v : Int) := u32_in (by omega)
    have hw4 : IntKind.u32.wrap (1 + 256 * (v : Int)) = 1 + 256 * (v : Int) := u32_in (by omega)
    clear hk
    go_enter Try.func52, Try.ntmps52
    go_wp2_with fail
    refine (HN.out _ (H.out.below hb1)).mono ?_
    rintro e w2 ⟨rfl, h2⟩
    have hr2 := hr1.fr h2.fr (by omega)
    have ha2 := (ha1.fr h2.fr (by omega)).set_ 2 (.int .i64 (u : Int))
    simp only [List.setIfInBounds_toArray, List.set_cons_zero, List.set_cons_succ] at ha2
    have hr3 := hr2.far (p := ⟨w.heap.size + 1, 2, none⟩) (by simp) (.int .i64 (u : Int))
    have f2 := (Fr.refl (fun k => k = w.heap.size + 1) w2).setAt (w.heap.size + 1) 2 rfl (.int .i64 (u : Int))
    have x2 : w2.cell? ⟨w.heap.size + 1, 2, none⟩ = some (.int .i64 0) := (ha1.fr h2.fr (by omega)).cell 2
    have y2 : w2.frozen? ⟨w.heap.size + 1, 2, none⟩ = false := (ha1.fr h2.fr (by omega)).frozen 2
    have hT2 := (NxTo.after hb1 h2).side f2 (by omega) hZ hg
    go_wp2_with fail
    generalize w2.setCell ⟨w.heap.size + 1, 2, none⟩ (.int .i64 (u : Int)) = w3 at *
    have e2 : w3.cell? ⟨w.heap.size + 1, 2, none⟩ = some (.int .i64 (u : Int)) := ha2.cell 2
    go_region_with (go_at_call 51; refine (HN2.out w3.drew (hT2.at_.below (Below.refl _ _).drew)).mono ?_; rintro e w4 ⟨rfl, h4⟩; have ha4 := ha2.drew.fr h4.fr (by omega); have hr4 := hr3.drew.fr h4.fr (by omega); have hT4 := (hT2.then_ (Below.refl _ _).drew).trans h4; have g2 : w4.cell? ⟨w.heap.size + 1, 2, none⟩ = some (.int .i64 (u : Int)) := ha4.cell 2; have g3 : w4.cell? ⟨w.heap.size + 1, 3, none⟩ = some (.int .i64 0) := ha4.cell 3; have g4 : w4.cell? ⟨w.heap.size + 1, 4, none⟩ = some (.int .u32 0) := ha4.cell 4; have k3 := ha4.frozen 3; have k4 := ha4.frozen 4)
    all_goals
      have ha5 := (ha4.set_ 3 (.int .i64 (3 * (u : Int)))).set_ 4 (.int .u32 (1 + 256 * (v : Int)))
      simp only [List.setIfInBounds_toArray, List.set_cons_zero, List.set_cons_succ] at ha5
      have hr5 := (hr4.far (p := ⟨w.heap.size + 1, 3, none⟩) (by simp) (.int .i64 (3 * (u : Int)))).far (p := ⟨w.heap.size + 1, 4, none⟩) (by simp) (.int .u32 (1 + 256 * (v : Int)))
      have f5 := ((Fr.refl (fun k => k = w.heap.size + 1) w4).setAt (w.heap.size + 1) 3 rfl (.int .i64 (3 * (u : Int)))).setAt (w.heap.size + 1) 4 rfl (.int .u32 (1 + 256 * (v : Int)))
      have hT5 := hT4.side f5 (by omega) hZ hg
      generalize (w4.setCell ⟨w.heap.size + 1, 3, none⟩ (.int .i64 (3 * (u : Int)))).setCell ⟨w.heap.size + 1, 4, none⟩ (.int .u32 (1 + 256 * (v : Int))) = w5 at *
      have r0 : w5.cell? ⟨w.heap.size, 0, none⟩ = some (.int .i64 0) := hr5.cell 0
      have z0 := hr5.frozen 0
      have r1 : w5.cell? ⟨w.heap.size, 1, none⟩ = some (.int .i64 0) := hr5.cell 1
      have z1 := hr5.frozen 1
      have r2 : w5.cell? ⟨w.heap.size, 2, none⟩ = some (.int .i64 0) := hr5.cell 2
      have z2 := hr5.frozen 2
      have r3 : w5.cell? ⟨w.heap.size, 3, none⟩ = some (.int .i64 0) := hr5.cell 3
      have z3 := hr5.frozen 3
      have r4 : w5.cell? ⟨w.heap.size, 4, none⟩ = some (.int .u32 0) := hr5.cell 4
      have z4 := hr5.frozen 4
      have r5 : w5.cell? ⟨w.heap.size, 5, none⟩ = some (.int .i64 0) := hr5.cell 5
      have z5 := hr5.frozen 5
      have r6 : w5.cell? ⟨w.heap.size, 6, none⟩ = some (.string ⟨#[]⟩) := hr5.cell 6
      have z6 := hr5.frozen 6
      have r7 : w5.cell? ⟨w.heap.size, 7, none⟩ = some (.string ⟨#[]⟩) := hr5.cell 7
      have z7 := hr5.frozen 7
      have r8 : w5.cell? ⟨w.heap.size, 8, none⟩ = some (.slice none 0 0) := hr5.cell 8
      have z8 := hr5.frozen 8
      have r9 : w5.cell? ⟨w.heap.size, 9, none⟩ = some (.slice none 0 0) := hr5.cell 9
      have z9 := hr5.frozen 9
      have r10 : w5.cell? ⟨w.heap.size, 10, none⟩ = some (.slice none 0 0) := hr5.cell 10
      have z10 := hr5.frozen 10
      have a0 : w5.cell? ⟨(w.heap.size + 1), 0, none⟩ = some (.int .i64 6) := ha5.cell 0
      have b0 := ha5.frozen 0
      have a1 : w5.cell? ⟨(w.heap.size + 1), 1, none⟩ = some (.int .i64 (1 + (x : Int) / 128)) := ha5.cell 1
      have b1 := ha5.frozen 1
      have a2 : w5.cell? ⟨(w.heap.size + 1), 2, none⟩ = some (.int .i64 (u : Int)) := ha5.cell 2
      have b2 := ha5.frozen 2
      have a3 : w5.cell? ⟨(w.heap.size + 1), 3, none⟩ = some (.int .i64 (3 * (u : Int))) := ha5.cell 3
      have b3 := ha5.frozen 3
      have a4 : w5.cell? ⟨(w.heap.size + 1), 4, none⟩ = some (.int .u32 (1 + 256 * (v : Int))) := ha5.cell 4
      have b4 := ha5.frozen 4
      have a5 : w5.cell? ⟨(w.heap.size + 1), 5, none⟩ = some (.int .i64 0) := ha5.cell 5
      have b5 := ha5.frozen 5
      have a6 : w5.cell? ⟨(w.heap.size + 1), 6, none⟩ = some (.string ⟨#[]⟩) := ha5.cell 6
      have b6 := ha5.frozen 6
      have a7 : w5.cell? ⟨(w.heap.size + 1), 7, none⟩ = some (.string ⟨#[]⟩) := ha5.cell 7
      have b7 := ha5.frozen 7
      have a8 : w5.cell? ⟨(w.heap.size + 1), 8, none⟩ = some (.slice none 0 0) := ha5.cell 8
      have b8 := ha5.frozen 8
      have a9 : w5.cell? ⟨(w.heap.size + 1), 9, none⟩ = some (.slice none 0 0) := ha5.cell 9
      have b9 := ha5.frozen 9
      have a10 : w5.cell? ⟨(w.heap.size + 1), 10, none⟩ = some (.slice none 0 0) := ha5.cell 10
      have b10 := ha5.frozen 10
      go_wp2_with fail
      refine act_ret hr5 rfl rfl rfl rfl ?_
      intro V hV fV
      exact ⟨{ a := { k := 6, s := 1 + (x : Int) / 128, n := (u : Int), b := 3 * (u : Int), m := 1 + 256 * (v : Int) } }, rfl, rfl, ⟨Rd.nil, Rd.nil, Rd.nil, ⟨by simp, by dsimp only; omega, by dsimp only; omega, by dsimp only; omega, by dsimp only; omega, by simp, Nat.zero_le _, Nat.zero_le _, by simp, by simp, by simp, by simp, by simp⟩⟩, hT5.side fV (Nat.le_refl _) hZ hg⟩

  · have hk : (if x / 16 % 4 = 0 then (5 : Int) else if x / 16 % 4 = 1 then 6 else 7) = 7 := by rw [hq]; rfl
    have hq2 : (x : Int) / 16 % 4 = 2 := by omega
    have hz := z_not hZ
    have hu := nx_lt l
    have HN := Lib.hid (fun W (hW : NxAt W g Z l) => next_any g Z l W hW hz)
    obtain rfl : R = ({ k := 7, s := 1 + (x : Int) / 128, n := ((nx l).1 : Int), b := 3 * ((nx l).1 : Int), m := 1 + 256 * ((nx (nx l).2).1 : Int) }, (nx (nx l).2).2) := by rw [HR.out]; unfold oneS; rw [if_neg (by omega), if_pos h12, hk]
    clear HR
    generalize nx l = u at *
    obtain ⟨u, l1⟩ := u
    dsimp only at *
    have hv := nx_lt l1
    have HN2 := Lib.hid (fun W (hW : NxAt W g Z l1) => next_any g Z l1 W hW hz)
    generalize nx l1 = v at *
    obtain ⟨v, l2⟩ := v
    dsimp only at *
    have hb1 : Below w.heap.size w ((w.alloc (.cells #[.int .i64 0, .int .i64 0, .int .i64 0, .int .i64 0, .int .u32 0, .int .i64 0, .string ⟨#[]⟩, .string ⟨#[]⟩, .slice none 0 0, .slice none 0 0, .slice none 0 0] 57)).alloc (.cells #[.int .i64 7, .int .i64 (1 + (x : Int) / 128), .int .i64 0, .int .i64 0, .int .u32 0, .int .i64 0, .string ⟨#[]⟩, .string ⟨#[]⟩, .slice none 0 0, .slice none 0 0, .slice none 0 0] 57)) := (by repeat (first | exact Below.refl _ _ | refine Below.alloc ?_ (by simp) _ | refine Below.setCell ?_ (by simp) _ | refine Below.drew ?_))
    have hr1 := (Blk.new w 57 #[.int .i64 0, .int .i64 0, .int .i64 0, .int .i64 0, .int .u32 0, .int .i64 0, .string ⟨#[]⟩, .string ⟨#[]⟩, .slice none 0 0, .slice none 0 0, .slice none 0 0]).alloc (.cells #[.int .i64 7, .int .i64 (1 + (x : Int) / 128), .int .i64 0, .int .i64 0, .int .u32 0, .int .i64 0, .string ⟨#[]⟩, .string ⟨#[]⟩, .slice none 0 0, .slice none 0 0, .slice none 0 0] 57)
    have ha1 := Blk.new (w.alloc (.cells #[.int .i64 0, .int .i64 0, .int .i64 0, .int .i64 0, .int .u32 0, .int .i64 0, .string ⟨#[]⟩, .string ⟨#[]⟩, .slice none 0 0, .slice none 0 0, .slice none 0 0] 57)) 57 #[.int .i64 7, .int .i64 (1 + (x : Int) / 128), .int .i64 0, .int .i64 0, .int .u32 0, .int .i64 0, .string ⟨#[]⟩, .string ⟨#[]⟩, .slice none 0 0, .slice none 0 0, .slice none 0 0]
    rw [World.size_alloc] at ha1
    have hw1 : IntKind.i64.wrap (3 * (u : Int)) = 3 * (u : Int) := IntWalk.i64_in _ (by omega)
    have hidx : ∀ W, (Instr.index 128 (.agg #[.int .i64 5, .int .i64 6, .int .i64 7, .int .i64 7]) (.int .i64 2)).run Try.prog W = .ok (.int .i64 7) W := fun W => by kernel_rfl
    have hw2 : IntKind.u32.wrap (v : Int) = (v : Int) := u32_in (by omega)
    have hw3 : IntKind.u32.wrap (256 * (v : Int)) = 256 * (v : Int) := u32_in (by omega)
    have hw4 : IntKind.u32.wrap (1 + 256 * (v : Int)) = 1 + 256 * (v : Int) := u32_in (by omega)
    clear hk
    go_enter Try.func52, Try.ntmps52
    go_wp2_with fail
    refine (HN.out _ (H.out.below hb1)).mono ?_
    rintro e w2 ⟨rfl, h2⟩
    have hr2 := hr1.fr h2.fr (by omega)
    have ha2 := (ha1.fr h2.fr (by omega)).set_ 2 (.int .i64 (u : Int))
    simp only [List.setIfInBounds_toArray, List.set_cons_zero, List.set_cons_succ] at ha2
    have hr3 := hr2.far (p := ⟨w.heap.size + 1, 2, none⟩) (by simp) (.int .i64 (u : Int))
    have f2 := (Fr.refl (fun k => k = w.heap.size + 1) w2).setAt (w.heap.size + 1) 2 rfl (.int .i64 (u : Int))
    have x2 : w2.cell? ⟨w.heap.size + 1, 2, none⟩ = some (.int .i64 0) := (ha1.fr h2.fr (by omega)).cell 2
    have y2 : w2.frozen? ⟨w.heap.size + 1, 2, none⟩ = false := (ha1.fr h2.fr (by omega)).frozen 2
    have hT2 := (NxTo.after hb1 h2).side f2 (by omega) hZ hg
    go_wp2_with fail
    generalize w2.setCell ⟨w.heap.size + 1, 2, none⟩ (.int .i64 (u : Int)) = w3 at *
    have e2 : w3.cell? ⟨w.heap.size + 1, 2, none⟩ = some (.int .i64 (u : Int)) := ha2.cell 2
    go_region_with (go_at_call 51; refine (HN2.out w3.drew (hT2.at_.below (Below.refl _ _).drew)).mono ?_; rintro e w4 ⟨rfl, h4⟩; have ha4 := ha2.drew.fr h4.fr (by omega); have hr4 := hr3.drew.fr h4.fr (by omega); have hT4 := (hT2.then_ (Below.refl _ _).drew).trans h4; have g2 : w4.cell? ⟨w.heap.size + 1, 2, none⟩ = some (.int .i64 (u : Int)) := ha4.cell 2; have g3 : w4.cell? ⟨w.heap.size + 1, 3, none⟩ = some (.int .i64 0) := ha4.cell 3; have g4 : w4.cell? ⟨w.heap.size + 1, 4, none⟩ = some (.int .u32 0) := ha4.cell 4; have k3 := ha4.frozen 3; have k4 := ha4.frozen 4)
    all_goals
      have ha5 := (ha4.set_ 3 (.int .i64 (3 * (u : Int)))).set_ 4 (.int .u32 (1 + 256 * (v : Int)))
      simp only [List.setIfInBounds_toArray, List.set_cons_zero, List.set_cons_succ] at ha5
      have hr5 := (hr4.far (p := ⟨w.heap.size + 1, 3, none⟩) (by simp) (.int .i64 (3 * (u : Int)))).far (p := ⟨w.heap.size + 1, 4, none⟩) (by simp) (.int .u32 (1 + 256 * (v : Int)))
      have f5 := ((Fr.refl (fun k => k = w.heap.size + 1) w4).setAt (w.heap.size + 1) 3 rfl (.int .i64 (3 * (u : Int)))).setAt (w.heap.size + 1) 4 rfl (.int .u32 (1 + 256 * (v : Int)))
      have hT5 := hT4.side f5 (by omega) hZ hg
      generalize (w4.setCell ⟨w.heap.size + 1, 3, none⟩ (.int .i64 (3 * (u : Int)))).setCell ⟨w.heap.size + 1, 4, none⟩ (.int .u32 (1 + 256 * (v : Int))) = w5 at *
      have r0 : w5.cell? ⟨w.heap.size, 0, none⟩ = some (.int .i64 0) := hr5.cell 0
      have z0 := hr5.frozen 0
      have r1 : w5.cell? ⟨w.heap.size, 1, none⟩ = some (.int .i64 0) := hr5.cell 1
      have z1 := hr5.frozen 1
      have r2 : w5.cell? ⟨w.heap.size, 2, none⟩ = some (.int .i64 0) := hr5.cell 2
      have z2 := hr5.frozen 2
      have r3 : w5.cell? ⟨w.heap.size, 3, none⟩ = some (.int .i64 0) := hr5.cell 3
      have z3 := hr5.frozen 3
      have r4 : w5.cell? ⟨w.heap.size, 4, none⟩ = some (.int .u32 0) := hr5.cell 4
      have z4 := hr5.frozen 4
      have r5 : w5.cell? ⟨w.heap.size, 5, none⟩ = some (.int .i64 0) := hr5.cell 5
      have z5 := hr5.frozen 5
      have r6 : w5.cell? ⟨w.heap.size, 6, none⟩ = some (.string ⟨#[]⟩) := hr5.cell 6
      have z6 := hr5.frozen 6
      have r7 : w5.cell? ⟨w.heap.size, 7, none⟩ = some (.string ⟨#[]⟩) := hr5.cell 7
      have z7 := hr5.frozen 7
      have r8 : w5.cell? ⟨w.heap.size, 8, none⟩ = some (.slice none 0 0) := hr5.cell 8
      have z8 := hr5.frozen 8
      have r9 : w5.cell? ⟨w.heap.size, 9, none⟩ = some (.slice none 0 0) := hr5.cell 9
      have z9 := hr5.frozen 9
      have r10 : w5.cell? ⟨w.heap.size, 10, none⟩ = some (.slice none 0 0) := hr5.cell 10
      have z10 := hr5.frozen 10
      have a0 : w5.cell? ⟨(w.heap.size + 1), 0, none⟩ = some (.int .i64 7) := ha5.cell 0
      have b0 := ha5.frozen 0
      have a1 : w5.cell? ⟨(w.heap.size + 1), 1, none⟩ = some (.int .i64 (1 + (x : Int) / 128)) := ha5.cell 1
      have b1 := ha5.frozen 1
      have a2 : w5.cell? ⟨(w.heap.size + 1), 2, none⟩ = some (.int .i64 (u : Int)) := ha5.cell 2
      have b2 := ha5.frozen 2
      have a3 : w5.cell? ⟨(w.heap.size + 1), 3, none⟩ = some (.int .i64 (3 * (u : Int))) := ha5.cell 3
      have b3 := ha5.frozen 3
      have a4 : w5.cell? ⟨(w.heap.size + 1), 4, none⟩ = some (.int .u32 (1 + 256 * (v : Int))) := ha5.cell 4
      have b4 := ha5.frozen 4
      have a5 : w5.cell? ⟨(w.heap.size + 1), 5, none⟩ = some (.int .i64 0) := ha5.cell 5
      have b5 := ha5.frozen 5
      have a6 : w5.cell? ⟨(w.heap.size + 1), 6, none⟩ = some (.string ⟨#[]⟩) := ha5.cell 6
      have b6 := ha5.frozen 6
      have a7 : w5.cell? ⟨(w.heap.size + 1), 7, none⟩ = some (.string ⟨#[]⟩) := ha5.cell 7
      have b7 := ha5.frozen 7
      have a8 : w5.cell? ⟨(w.heap.size + 1), 8, none⟩ = some (.slice none 0 0) := ha5.cell 8
      have b8 := ha5.frozen 8
      have a9 : w5.cell? ⟨(w.heap.size + 1), 9, none⟩ = some (.slice none 0 0) := ha5.cell 9
      have b9 := ha5.frozen 9
      have a10 : w5.cell? ⟨(w.heap.size + 1), 10, none⟩ = some (.slice none 0 0) := ha5.cell 10
      have b10 := ha5.frozen 10
      go_wp2_with fail
      refine act_ret hr5 rfl rfl rfl rfl ?_
      intro V hV fV
      exact ⟨{ a := { k := 7, s := 1 + (x : Int) / 128, n := (u : Int), b := 3 * (u : Int), m := 1 + 256 * (v : Int) } }, rfl, rfl, ⟨Rd.nil, Rd.nil, Rd.nil, ⟨by simp, by dsimp only; omega, by dsimp only; omega, by dsimp only; omega, by dsimp only; omega, by simp, Nat.zero_le _, Nat.zero_le _, by simp, by simp, by simp, by simp, by simp⟩⟩, hT5.side fV (Nat.le_refl _) hZ hg⟩

  · have hk : (if x / 16 % 4 = 0 then (5 : Int) else if x / 16 % 4 = 1 then 6 else 7) = 7 := by rw [hq]; rfl
    have hq2 : (x : Int) / 16 % 4 = 3 := by omega
    have hz := z_not hZ
    have hu := nx_lt l
    have HN := Lib.hid (fun W (hW : NxAt W g Z l) => next_any g Z l W hW hz)
    obtain rfl : R = ({ k := 7, s := 1 + (x : Int) / 128, n := ((nx l).1 : Int), b := 3 * ((nx l).1 : Int), m := 1 + 256 * ((nx (nx l).2).1 : Int) }, (nx (nx l).2).2) := by rw [HR.out]; unfold oneS; rw [if_neg (by omega), if_pos h12, hk]
    clear HR
    generalize nx l = u at *
    obtain ⟨u, l1⟩ := u
    dsimp only at *
    have hv := nx_lt l1
    have HN2 := Lib.hid (fun W (hW : NxAt W g Z l1) => next_any g Z l1 W hW hz)
    generalize nx l1 = v at *
    obtain ⟨v, l2⟩ := v
    dsimp only at *
    have hb1 : Below w.heap.size w ((w.alloc (.cells #[.int .i64 0, .int .i64 0, .int .i64 0, .int .i64 0, .int .u32 0, .int .i64 0, .string ⟨#[]⟩, .string ⟨#[]⟩, .slice none 0 0, .slice none 0 0, .slice none 0 0] 57)).alloc (.cells #[.int .i64 7, .int .i64 (1 + (x : Int) / 128), .int .i64 0, .int .i64 0, .int .u32 0, .int .i64 0, .string ⟨#[]⟩, .string ⟨#[]⟩, .slice none 0 0, .slice none 0 0, .slice none 0 0] 57)) := (by repeat (first | exact Below.refl _ _ | refine Below.alloc ?_ (by simp) _ | refine Below.setCell ?_ (by simp) _ | refine Below.drew ?_))
    have hr1 := (Blk.new w 57 #[.int .i64 0, .int .i64 0, .int .i64 0, .int .i64 0, .int .u32 0, .int .i64 0, .string ⟨#[]⟩, .string ⟨#[]⟩, .slice none 0 0, .slice none 0 0, .slice none 0 0]).alloc (.cells #[.int .i64 7, .int .i64 (1 + (x : Int) / 128), .int .i64 0, .int .i64 0, .int .u32 0, .int .i64 0, .string ⟨#[]⟩, .string ⟨#[]⟩, .slice none 0 0, .slice none 0 0, .slice none 0 0] 57)
    have ha1 := Blk.new (w.alloc (.cells #[.int .i64 0, .int .i64 0, .int .i64 0, .int .i64 0, .int .u32 0, .int .i64 0, .string ⟨#[]⟩, .string ⟨#[]⟩, .slice none 0 0, .slice none 0 0, .slice none 0 0] 57)) 57 #[.int .i64 7, .int .i64 (1 + (x : Int) / 128), .int .i64 0, .int .i64 0, .int .u32 0, .int .i64 0, .string ⟨#[]⟩, .string ⟨#[]⟩, .slice none 0 0, .slice none 0 0, .slice none 0 0]
    rw [World.size_alloc] at ha1
    have hw1 : IntKind.i64.wrap (3 * (u : Int)) = 3 * (u : Int) := IntWalk.i64_in _ (by omega)
    have hidx : ∀ W, (Instr.index 128 (.agg #[.int .i64 5, .int .i64 6, .int .i64 7, .int .i64 7]) (.int .i64 3)).run Try.prog W = .ok (.int .i64 7) W := fun W => by kernel_rfl
    have hw2 : IntKind.u32.wrap (v : Int) = (v : Int) := u32_in (by omega)
    have hw3 : IntKind.u32.wrap (256 * (v : Int)) = 256 * (v : Int) := u32_in (by omega)
    have hw4 : IntKind.u32.wrap (1 + 256 * (v : Int)) = 1 + 256 * (v : Int) := u32_in (by omega)
    clear hk
    go_enter Try.func52, Try.ntmps52
    go_wp2_with fail
    refine (HN.out _ (H.out.below hb1)).mono ?_
    rintro e w2 ⟨rfl, h2⟩
    have hr2 := hr1.fr h2.fr (by omega)
    have ha2 := (ha1.fr h2.fr (by omega)).set_ 2 (.int .i64 (u : Int))
    simp only [List.setIfInBounds_toArray, List.set_cons_zero, List.set_cons_succ] at ha2
    have hr3 := hr2.far (p := ⟨w.heap.size + 1, 2, none⟩) (by simp) (.int .i64 (u : Int))
    have f2 := (Fr.refl (fun k => k = w.heap.size + 1) w2).setAt (w.heap.size + 1) 2 rfl (.int .i64 (u : Int))
    have x2 : w2.cell? ⟨w.heap.size + 1, 2, none⟩ = some (.int .i64 0) := (ha1.fr h2.fr (by omega)).cell 2
    have y2 : w2.frozen? ⟨w.heap.size + 1, 2, none⟩ = false := (ha1.fr h2.fr (by omega)).frozen 2
    have hT2 := (NxTo.after hb1 h2).side f2 (by omega) hZ hg
    go_wp2_with fail
    generalize w2.setCell ⟨w.heap.size + 1, 2, none⟩ (.int .i64 (u : Int)) = w3 at *
    have e2 : w3.cell? ⟨w.heap.size + 1, 2, none⟩ = some (.int .i64 (u : Int)) := ha2.cell 2
    go_region_with (go_at_call 51; refine (HN2.out w3.drew (hT2.at_.below (Below.refl _ _).drew)).mono ?_; rintro e w4 ⟨rfl, h4⟩; have ha4 := ha2.drew.fr h4.fr (by omega); have hr4 := hr3.drew.fr h4.fr (by omega); have hT4 := (hT2.then_ (Below.refl _ _).drew).trans h4; have g2 : w4.cell? ⟨w.heap.size + 1, 2, none⟩ = some (.int .i64 (u : Int)) := ha4.cell 2; have g3 : w4.cell? ⟨w.heap.size + 1, 3, none⟩ = some (.int .i64 0) := ha4.cell 3; have g4 : w4.cell? ⟨w.heap.size + 1, 4, none⟩ = some (.int .u32 0) := ha4.cell 4; have k3 := ha4.frozen 3; have k4 := ha4.frozen 4)
    all_goals
      have ha5 := (ha4.set_ 3 (.int .i64 (3 * (u : Int)))).set_ 4 (.int .u32 (1 + 256 * (v : Int)))
      simp only [List.setIfInBounds_toArray, List.set_cons_zero, List.set_cons_succ] at ha5
      have hr5 := (hr4.far (p := ⟨w.heap.size + 1, 3, none⟩) (by simp) (.int .i64 (3 * (u : Int)))).far (p := ⟨w.heap.size + 1, 4, none⟩) (by simp) (.int .u32 (1 + 256 * (v : Int)))
      have f5 := ((Fr.refl (fun k => k = w.heap.size + 1) w4).setAt (w.heap.size + 1) 3 rfl (.int .i64 (3 * (u : Int)))).setAt (w.heap.size + 1) 4 rfl (.int .u32 (1 + 256 * (v : Int)))
      have hT5 := hT4.side f5 (by omega) hZ hg
      generalize (w4.setCell ⟨w.heap.size + 1, 3, none⟩ (.int .i64 (3 * (u : Int)))).setCell ⟨w.heap.size + 1, 4, none⟩ (.int .u32 (1 + 256 * (v : Int))) = w5 at *
      have r0 : w5.cell? ⟨w.heap.size, 0, none⟩ = some (.int .i64 0) := hr5.cell 0
      have z0 := hr5.frozen 0
      have r1 : w5.cell? ⟨w.heap.size, 1, none⟩ = some (.int .i64 0) := hr5.cell 1
      have z1 := hr5.frozen 1
      have r2 : w5.cell? ⟨w.heap.size, 2, none⟩ = some (.int .i64 0) := hr5.cell 2
      have z2 := hr5.frozen 2
      have r3 : w5.cell? ⟨w.heap.size, 3, none⟩ = some (.int .i64 0) := hr5.cell 3
      have z3 := hr5.frozen 3
      have r4 : w5.cell? ⟨w.heap.size, 4, none⟩ = some (.int .u32 0) := hr5.cell 4
      have z4 := hr5.frozen 4
      have r5 : w5.cell? ⟨w.heap.size, 5, none⟩ = some (.int .i64 0) := hr5.cell 5
      have z5 := hr5.frozen 5
      have r6 : w5.cell? ⟨w.heap.size, 6, none⟩ = some (.string ⟨#[]⟩) := hr5.cell 6
      have z6 := hr5.frozen 6
      have r7 : w5.cell? ⟨w.heap.size, 7, none⟩ = some (.string ⟨#[]⟩) := hr5.cell 7
      have z7 := hr5.frozen 7
      have r8 : w5.cell? ⟨w.heap.size, 8, none⟩ = some (.slice none 0 0) := hr5.cell 8
      have z8 := hr5.frozen 8
      have r9 : w5.cell? ⟨w.heap.size, 9, none⟩ = some (.slice none 0 0) := hr5.cell 9
      have z9 := hr5.frozen 9
      have r10 : w5.cell? ⟨w.heap.size, 10, none⟩ = some (.slice none 0 0) := hr5.cell 10
      have z10 := hr5.frozen 10
      have a0 : w5.cell? ⟨(w.heap.size + 1), 0, none⟩ = some (.int .i64 7) := ha5.cell 0
      have b0 := ha5.frozen 0
      have a1 : w5.cell? ⟨(w.heap.size + 1), 1, none⟩ = some (.int .i64 (1 + (x : Int) / 128)) := ha5.cell 1
      have b1 := ha5.frozen 1
      have a2 : w5.cell? ⟨(w.heap.size + 1), 2, none⟩ = some (.int .i64 (u : Int)) := ha5.cell 2
      have b2 := ha5.frozen 2
      have a3 : w5.cell? ⟨(w.heap.size + 1), 3, none⟩ = some (.int .i64 (3 * (u : Int))) := ha5.cell 3
      have b3 := ha5.frozen 3
      have a4 : w5.cell? ⟨(w.heap.size + 1), 4, none⟩ = some (.int .u32 (1 + 256 * (v : Int))) := ha5.cell 4
      have b4 := ha5.frozen 4
      have a5 : w5.cell? ⟨(w.heap.size + 1), 5, none⟩ = some (.int .i64 0) := ha5.cell 5
      have b5 := ha5.frozen 5
      have a6 : w5.cell? ⟨(w.heap.size + 1), 6, none⟩ = some (.string ⟨#[]⟩) := ha5.cell 6
      have b6 := ha5.frozen 6
      have a7 : w5.cell? ⟨(w.heap.size + 1), 7, none⟩ = some (.string ⟨#[]⟩) := ha5.cell 7
      have b7 := ha5.frozen 7
      have a8 : w5.cell? ⟨(w.heap.size + 1), 8, none⟩ = some (.slice none 0 0) := ha5.cell 8
      have b8 := ha5.frozen 8
      have a9 : w5.cell? ⟨(w.heap.size + 1), 9, none⟩ = some (.slice none 0 0) := ha5.cell 9
      have b9 := ha5.frozen 9
      have a10 : w5.cell? ⟨(w.heap.size + 1), 10, none⟩ = some (.slice none 0 0) := ha5.cell 10
      have b10 := ha5.frozen 10
      go_wp2_with fail
      refine act_ret hr5 rfl rfl rfl rfl ?_
      intro V hV fV
      exact ⟨{ a := { k := 7, s := 1 + (x : Int) / 128, n := (u : Int), b := 3 * (u : Int), m := 1 + 256 * (v : Int) } }, rfl, rfl, ⟨Rd.nil, Rd.nil, Rd.nil, ⟨by simp, by dsimp only; omega, by dsimp only; omega, by dsimp only; omega, by dsimp only; omega, by simp, Nat.zero_le _, Nat.zero_le _, by simp, by simp, by simp, by simp, by simp⟩⟩, hT5.side fV (Nat.le_refl _) hZ hg⟩

end Go.Proofs.Ytpbgcbpofhbgbaa
