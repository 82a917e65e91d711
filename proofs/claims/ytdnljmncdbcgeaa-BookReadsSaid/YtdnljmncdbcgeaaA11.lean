/- tenderref07.Read, Bytes. -/
import Derived.Test.YtdnljmncdbcgeaaA10

namespace Go.Proofs.Ytdnljmncdbcgeaa
open Go.RowKit

set_option maxHeartbeats 1000000 in
theorem leafReadR_any (eb : Nat) (Z : Nat → Prop) (A : Option Addr) (c : Nat) (l : List UInt8) (f : Int) (w : World) (h : EyeAt w 166 eb Z A c l f) (hz : ¬ Z eb) :
    Calls Try.prog 139 #[.pointer (some ⟨eb, 0, none⟩)] w fun e w' => ∃ (A' : Option Addr) (n' c' : Nat), e = .returned (.agg #[.int .i64 ((leafS l f).1 : Int), .slice A' n' c']) ∧ Hid (n' = (leafS l f).2.1.length) ∧ Rd w' Z 1 A' n' ((leafS l f).2.1.map bv) ∧ n' ≤ c' ∧ c' ≤ maxLen ∧ EyeTo w 166 eb Z (leafS l f).2.2.1 (leafS l f).2.2.2 w' := by
  have hzz : ∀ x, (fun b => Z b ∧ b < w.heap.size) x → Z x := fun x h => h.1
  have hzw : ∀ x, (fun b => Z b ∧ b < w.heap.size) x → x < w.heap.size := fun x h => h.2
  have hz : ¬ (fun b => Z b ∧ b < w.heap.size) eb := fun h => hz h.1
  replace h := h.mono (Z' := fun b => Z b ∧ b < w.heap.size) (fun b h1 h2 => ⟨h2, h1⟩)
  suffices hs : Calls Try.prog 139 #[.pointer (some ⟨eb, 0, none⟩)] w fun e w' => ∃ (A' : Option Addr) (n' c' : Nat), e = .returned (.agg #[.int .i64 ((leafS l f).1 : Int), .slice A' n' c']) ∧ Hid (n' = (leafS l f).2.1.length) ∧ Rd w' (fun b => Z b ∧ b < w.heap.size) 1 A' n' ((leafS l f).2.1.map bv) ∧ n' ≤ c' ∧ c' ≤ maxLen ∧ EyeTo w 166 eb (fun b => Z b ∧ b < w.heap.size) (leafS l f).2.2.1 (leafS l f).2.2.2 w' by
    refine hs.mono ?_
    rintro e w' ⟨A', n', c', h1, h2, h3, h4, h5, h6⟩
    exact ⟨A', n', c', h1, h2, h3.mono (fun b _ hb => hzz b hb), h4, h5, h6.mono hzz⟩
  clear hzz
  generalize hZ' : (fun b => Z b ∧ b < w.heap.size) = Y at *
  clear hZ'
  have hn := fun w (h : EyeAt w 166 eb Y A c l f) => intR_any eb Y A c l f 2 w h hz (by omega)
  have HN := Lib.hid hn
  clear hn
  unfold leafS
  generalize intS l f 2 = r at *
  obtain ⟨n, l1, f1⟩ := r
  dsimp only at *
  have hlt := h.1.lt
  by_cases hn1 : n = 1
  · rw [if_pos hn1]
    subst hn1
    have htx := fun w A2 c2 h => textR_any eb Y A2 c2 l1 f1 4096 w h hz (by omega)
    have HTX := Lib.hid htx
    clear htx
    generalize textS l1 f1 4096 = r at *
    obtain ⟨t, l2, f2⟩ := r
    dsimp only at *
    by_cases hf : f2 = 0
    · subst hf
      rw [if_neg (by simp)]
      have bR0 := (Blk.new w 26 #[.int .i64 0, .slice none 0 0]).alloc (.cells #[.int .i64 0, .slice none 0 0] 26)
      have bL0 := Blk.new (w.alloc (.cells #[.int .i64 0, .slice none 0 0] 26)) 26 #[.int .i64 0, .slice none 0 0]
      have hz0 : (w.alloc (.cells #[.int .i64 0, .slice none 0 0] 26)).heap.size = w.heap.size + 1 := by simp
      rw [hz0] at bL0
      have hlow0 : Below w.heap.size w ((w.alloc (.cells #[.int .i64 0, .slice none 0 0] 26)).alloc (.cells #[.int .i64 0, .slice none 0 0] 26)) := (by repeat (first | exact Below.refl _ _ | refine Below.alloc ?_ (by simp) _ | refine Below.setCell ?_ (by simp) _ | refine Below.drew ?_))
      go_enter Try.func139, Try.ntmps139
      go_wp2_with fail
      generalize (w.alloc (.cells #[.int .i64 0, .slice none 0 0] 26)).alloc (.cells #[.int .i64 0, .slice none 0 0] 26) = W0 at *
      refine (HN.out _ (h.below hlow0)).mono ?_
      rintro e w1 ⟨rfl, h1⟩
      dsimp only at h1
      have hs1 := h1.fr.size
      have hsR := bR0.lt
      have hsL := bL0.lt
      have bR1 := bR0.fr h1.fr (by omega)
      have bL1 := bL0.fr h1.fr (by omega)
      have ht1 := EyeTo.after hlow0 h1
      have bL2 : Blk (w1.setCell ⟨w.heap.size + 1, 0, none⟩ (.int .i64 1)) (w.heap.size + 1) 26 #[.int .i64 1, .slice none 0 0] := by simpa using bL1.set_ 0 (.int .i64 1)
      have bR2 := bR1.far (p := ⟨w.heap.size + 1, 0, none⟩) (by simp) (.int .i64 1)
      have hf2 : Fr (fun x => x = w.heap.size + 1) w1 (w1.setCell ⟨w.heap.size + 1, 0, none⟩ (.int .i64 1)) := (Fr.refl (fun x => x = w.heap.size + 1) w1).setAt (w.heap.size + 1) 0 rfl _
      have ht2 := ht1.side hf2 (by omega) (by omega) (fun x hx e => by have := hzw x hx; omega)
      have hs2 := hf2.size
      have q0 := bL1.cell 0
      have q1 := bL1.frozen 0
      have r0 : (w1.setCell ⟨w.heap.size + 1, 0, none⟩ (.int .i64 1)).cell? ⟨w.heap.size + 1, 0, none⟩ = some (.int .i64 1) := bL2.cell 0
      obtain ⟨A2, c2, ha2⟩ := ht2.at_
      clear h1 ht1 hf2 bR0 bL0 hlow0 HN
      go_wp2_with fail
      clear r0 q0 q1 bR1 bL1
      generalize w1.setCell ⟨w.heap.size + 1, 0, none⟩ (.int .i64 1) = W1 at *
      refine (HTX.out W1 A2 c2 ha2).mono ?_
      rintro e w3 ⟨A4, n4, c4, rfl, hn4, hr4, hnc4, hcm4, ht4⟩
      have ht3 := ht2.trans ht4
      have bR3 := bR2.fr ht4.fr (by omega)
      have bL3 := bL2.fr ht4.fr (by omega)
      have bLW : Blk (w3.setCell ⟨w.heap.size + 1, 1, none⟩ (.slice A4 n4 c4)) (w.heap.size + 1) 26 #[.int .i64 1, .slice A4 n4 c4] := by simpa using bL3.set_ 1 (.slice A4 n4 c4)
      have bRW := bR3.far (p := ⟨w.heap.size + 1, 1, none⟩) (by simp) (.slice A4 n4 c4)
      have hfW : Fr (fun x => x = w.heap.size + 1) w3 (w3.setCell ⟨w.heap.size + 1, 1, none⟩ (.slice A4 n4 c4)) := (Fr.refl (fun x => x = w.heap.size + 1) w3).setAt (w.heap.size + 1) 1 rfl _
      have hsW := bL2.lt
      have ht := ht3.side hfW (by omega) (by omega) (fun x hx e => by have := hzw x hx; omega)
      have hr := hr4.fr hfW (fun x _ hx e => by have := hzw x hx; omega)
      have q0 := bL3.cell 1
      have q1 := bL3.frozen 1
      obtain ⟨A3, c3, ha3⟩ := ht.at_
      have u1 := ha3.c1
      have d0 : (w3.setCell ⟨w.heap.size + 1, 1, none⟩ (.slice A4 n4 c4)).cell? ⟨w.heap.size + 1, 0, none⟩ = some (.int .i64 1) := bLW.cell 0
      have d1 : (w3.setCell ⟨w.heap.size + 1, 1, none⟩ (.slice A4 n4 c4)).cell? ⟨w.heap.size + 1, 1, none⟩ = some (.slice A4 n4 c4) := bLW.cell 1
      have e0 : (w3.setCell ⟨w.heap.size + 1, 1, none⟩ (.slice A4 n4 c4)).cell? ⟨w.heap.size, 0, none⟩ = some (.int .i64 0) := bRW.cell 0
      have e1 : (w3.setCell ⟨w.heap.size + 1, 1, none⟩ (.slice A4 n4 c4)).cell? ⟨w.heap.size, 1, none⟩ = some (.slice none 0 0) := bRW.cell 1
      have g0 := bRW.frozen 0
      have g1 := bRW.frozen 1
      go_wp2_with fail
      clear q0 q1 bL3 bR3 u1 d0 d1 e0 e1 g0 g1
      generalize w3.setCell ⟨w.heap.size + 1, 1, none⟩ (.slice A4 n4 c4) = W at *
      obtain ⟨bxV, hfV⟩ := Blk.two (x' := .int .i64 1) (y' := .slice A4 n4 c4) bRW
      have htV := ht.side hfV (Nat.le_refl _) (by omega) (fun x hx e => by have := hzw x hx; omega)
      have hrV := hr.fr hfV (fun x _ hx e => by have := hzw x hx; omega)
      generalize (W.setCell ⟨w.heap.size, 0, none⟩ (.int .i64 1)).setCell ⟨w.heap.size, 1, none⟩ (.slice A4 n4 c4) = V at *
      have x0 : V.cell? ⟨w.heap.size, 0, none⟩ = some (.int .i64 1) := bxV.cell 0
      have x1 : V.cell? ⟨w.heap.size, 1, none⟩ = some (.slice A4 n4 c4) := bxV.cell 1
      refine bodyPost_ret (v := .agg #[.int .i64 1, .slice A4 n4 c4]) (by simp [results, Try.results139, go_sem, x0, x1]) rfl ?_
      exact ⟨A4, n4, c4, rfl, hn4, hrV, hnc4, hcm4, htV⟩
    · rw [if_pos hf]
      have hfb : (f2 == 0) = false := by simpa using hf
      have bR0 := (Blk.new w 26 #[.int .i64 0, .slice none 0 0]).alloc (.cells #[.int .i64 0, .slice none 0 0] 26)
      have bL0 := Blk.new (w.alloc (.cells #[.int .i64 0, .slice none 0 0] 26)) 26 #[.int .i64 0, .slice none 0 0]
      have hz0 : (w.alloc (.cells #[.int .i64 0, .slice none 0 0] 26)).heap.size = w.heap.size + 1 := by simp
      rw [hz0] at bL0
      have hlow0 : Below w.heap.size w ((w.alloc (.cells #[.int .i64 0, .slice none 0 0] 26)).alloc (.cells #[.int .i64 0, .slice none 0 0] 26)) := (by repeat (first | exact Below.refl _ _ | refine Below.alloc ?_ (by simp) _ | refine Below.setCell ?_ (by simp) _ | refine Below.drew ?_))
      go_enter Try.func139, Try.ntmps139
      go_wp2_with fail
      generalize (w.alloc (.cells #[.int .i64 0, .slice none 0 0] 26)).alloc (.cells #[.int .i64 0, .slice none 0 0] 26) = W0 at *
      refine (HN.out _ (h.below hlow0)).mono ?_
      rintro e w1 ⟨rfl, h1⟩
      dsimp only at h1
      have hs1 := h1.fr.size
      have hsR := bR0.lt
      have hsL := bL0.lt
      have bR1 := bR0.fr h1.fr (by omega)
      have bL1 := bL0.fr h1.fr (by omega)
      have ht1 := EyeTo.after hlow0 h1
      have bL2 : Blk (w1.setCell ⟨w.heap.size + 1, 0, none⟩ (.int .i64 1)) (w.heap.size + 1) 26 #[.int .i64 1, .slice none 0 0] := by simpa using bL1.set_ 0 (.int .i64 1)
      have bR2 := bR1.far (p := ⟨w.heap.size + 1, 0, none⟩) (by simp) (.int .i64 1)
      have hf2 : Fr (fun x => x = w.heap.size + 1) w1 (w1.setCell ⟨w.heap.size + 1, 0, none⟩ (.int .i64 1)) := (Fr.refl (fun x => x = w.heap.size + 1) w1).setAt (w.heap.size + 1) 0 rfl _
      have ht2 := ht1.side hf2 (by omega) (by omega) (fun x hx e => by have := hzw x hx; omega)
      have hs2 := hf2.size
      have q0 := bL1.cell 0
      have q1 := bL1.frozen 0
      have r0 : (w1.setCell ⟨w.heap.size + 1, 0, none⟩ (.int .i64 1)).cell? ⟨w.heap.size + 1, 0, none⟩ = some (.int .i64 1) := bL2.cell 0
      obtain ⟨A2, c2, ha2⟩ := ht2.at_
      clear h1 ht1 hf2 bR0 bL0 hlow0 HN
      go_wp2_with fail
      clear r0 q0 q1 bR1 bL1
      generalize w1.setCell ⟨w.heap.size + 1, 0, none⟩ (.int .i64 1) = W1 at *
      refine (HTX.out W1 A2 c2 ha2).mono ?_
      rintro e w3 ⟨A4, n4, c4, rfl, hn4, hr4, hnc4, hcm4, ht4⟩
      have ht3 := ht2.trans ht4
      have bR3 := bR2.fr ht4.fr (by omega)
      have bL3 := bL2.fr ht4.fr (by omega)
      have bLW : Blk (w3.setCell ⟨w.heap.size + 1, 1, none⟩ (.slice A4 n4 c4)) (w.heap.size + 1) 26 #[.int .i64 1, .slice A4 n4 c4] := by simpa using bL3.set_ 1 (.slice A4 n4 c4)
      have bRW := bR3.far (p := ⟨w.heap.size + 1, 1, none⟩) (by simp) (.slice A4 n4 c4)
      have hfW : Fr (fun x => x = w.heap.size + 1) w3 (w3.setCell ⟨w.heap.size + 1, 1, none⟩ (.slice A4 n4 c4)) := (Fr.refl (fun x => x = w.heap.size + 1) w3).setAt (w.heap.size + 1) 1 rfl _
      have hsW := bL2.lt
      have ht := ht3.side hfW (by omega) (by omega) (fun x hx e => by have := hzw x hx; omega)
      have hr := hr4.fr hfW (fun x _ hx e => by have := hzw x hx; omega)
      have q0 := bL3.cell 1
      have q1 := bL3.frozen 1
      obtain ⟨A3, c3, ha3⟩ := ht.at_
      have u1 := ha3.c1
      have d0 : (w3.setCell ⟨w.heap.size + 1, 1, none⟩ (.slice A4 n4 c4)).cell? ⟨w.heap.size + 1, 0, none⟩ = some (.int .i64 1) := bLW.cell 0
      have d1 : (w3.setCell ⟨w.heap.size + 1, 1, none⟩ (.slice A4 n4 c4)).cell? ⟨w.heap.size + 1, 1, none⟩ = some (.slice A4 n4 c4) := bLW.cell 1
      have e0 : (w3.setCell ⟨w.heap.size + 1, 1, none⟩ (.slice A4 n4 c4)).cell? ⟨w.heap.size, 0, none⟩ = some (.int .i64 0) := bRW.cell 0
      have e1 : (w3.setCell ⟨w.heap.size + 1, 1, none⟩ (.slice A4 n4 c4)).cell? ⟨w.heap.size, 1, none⟩ = some (.slice none 0 0) := bRW.cell 1
      have g0 := bRW.frozen 0
      have g1 := bRW.frozen 1
      go_wp2_with fail
      clear q0 q1 bL3 bR3 u1 d0 d1 e0 e1 g0 g1
      generalize w3.setCell ⟨w.heap.size + 1, 1, none⟩ (.slice A4 n4 c4) = W at *
      obtain ⟨bxV, hfV⟩ := Blk.two (x' := .int .i64 0) (y' := .slice none 0 0) bRW
      have htV := ht.side hfV (Nat.le_refl _) (by omega) (fun x hx e => by have := hzw x hx; omega)
      generalize (W.setCell ⟨w.heap.size, 0, none⟩ (.int .i64 0)).setCell ⟨w.heap.size, 1, none⟩ (.slice none 0 0) = V at *
      have x0 : V.cell? ⟨w.heap.size, 0, none⟩ = some (.int .i64 0) := bxV.cell 0
      have x1 : V.cell? ⟨w.heap.size, 1, none⟩ = some (.slice none 0 0) := bxV.cell 1
      refine bodyPost_ret (v := .agg #[.int .i64 0, .slice none 0 0]) (by simp [results, Try.results139, go_sem, x0, x1]) rfl ?_
      exact ⟨none, 0, 0, rfl, rfl, Rd.nil, Nat.le_refl _, by simp [maxLen], htV⟩
  · rw [if_neg hn1]
    have hn1b : ((n : Int) == 1) = false := by rw [beq_eq_false_iff_ne]; omega
    dsimp only
    by_cases hf : f1 = 0
    · subst hf
      rw [if_neg (by simp)]
      have bR0 := (Blk.new w 26 #[.int .i64 0, .slice none 0 0]).alloc (.cells #[.int .i64 0, .slice none 0 0] 26)
      have bL0 := Blk.new (w.alloc (.cells #[.int .i64 0, .slice none 0 0] 26)) 26 #[.int .i64 0, .slice none 0 0]
      have hz0 : (w.alloc (.cells #[.int .i64 0, .slice none 0 0] 26)).heap.size = w.heap.size + 1 := by simp
      rw [hz0] at bL0
      have hlow0 : Below w.heap.size w ((w.alloc (.cells #[.int .i64 0, .slice none 0 0] 26)).alloc (.cells #[.int .i64 0, .slice none 0 0] 26)) := (by repeat (first | exact Below.refl _ _ | refine Below.alloc ?_ (by simp) _ | refine Below.setCell ?_ (by simp) _ | refine Below.drew ?_))
      go_enter Try.func139, Try.ntmps139
      go_wp2_with fail
      generalize (w.alloc (.cells #[.int .i64 0, .slice none 0 0] 26)).alloc (.cells #[.int .i64 0, .slice none 0 0] 26) = W0 at *
      refine (HN.out _ (h.below hlow0)).mono ?_
      rintro e w1 ⟨rfl, h1⟩
      dsimp only at h1
      have hs1 := h1.fr.size
      have hsR := bR0.lt
      have hsL := bL0.lt
      have bR1 := bR0.fr h1.fr (by omega)
      have bL1 := bL0.fr h1.fr (by omega)
      have ht1 := EyeTo.after hlow0 h1
      have bL2 : Blk (w1.setCell ⟨w.heap.size + 1, 0, none⟩ (.int .i64 n)) (w.heap.size + 1) 26 #[.int .i64 n, .slice none 0 0] := by simpa using bL1.set_ 0 (.int .i64 n)
      have bR2 := bR1.far (p := ⟨w.heap.size + 1, 0, none⟩) (by simp) (.int .i64 n)
      have hf2 : Fr (fun x => x = w.heap.size + 1) w1 (w1.setCell ⟨w.heap.size + 1, 0, none⟩ (.int .i64 n)) := (Fr.refl (fun x => x = w.heap.size + 1) w1).setAt (w.heap.size + 1) 0 rfl _
      have ht2 := ht1.side hf2 (by omega) (by omega) (fun x hx e => by have := hzw x hx; omega)
      have hs2 := hf2.size
      have q0 := bL1.cell 0
      have q1 := bL1.frozen 0
      have r0 : (w1.setCell ⟨w.heap.size + 1, 0, none⟩ (.int .i64 n)).cell? ⟨w.heap.size + 1, 0, none⟩ = some (.int .i64 n) := bL2.cell 0
      obtain ⟨A2, c2, ha2⟩ := ht2.at_
      have u1 := ha2.c1
      have d0 : (w1.setCell ⟨w.heap.size + 1, 0, none⟩ (.int .i64 n)).cell? ⟨w.heap.size + 1, 0, none⟩ = some (.int .i64 n) := bL2.cell 0
      have d1 : (w1.setCell ⟨w.heap.size + 1, 0, none⟩ (.int .i64 n)).cell? ⟨w.heap.size + 1, 1, none⟩ = some (.slice none 0 0) := bL2.cell 1
      have e0 : (w1.setCell ⟨w.heap.size + 1, 0, none⟩ (.int .i64 n)).cell? ⟨w.heap.size, 0, none⟩ = some (.int .i64 0) := bR2.cell 0
      have e1 : (w1.setCell ⟨w.heap.size + 1, 0, none⟩ (.int .i64 n)).cell? ⟨w.heap.size, 1, none⟩ = some (.slice none 0 0) := bR2.cell 1
      have g0 := bR2.frozen 0
      have g1 := bR2.frozen 1
      clear h1 ht1 hf2 bR0 bL0 hlow0 HN
      go_wp2_with fail
      clear r0 q0 q1 bR1 bL1 u1 d0 d1 e0 e1 g0 g1
      generalize w1.setCell ⟨w.heap.size + 1, 0, none⟩ (.int .i64 n) = W at *
      have bLW := bL2
      have bRW := bR2
      have ht := ht2
      obtain ⟨bxV, hfV⟩ := Blk.two (x' := .int .i64 n) (y' := .slice none 0 0) bRW
      have htV := ht.side hfV (Nat.le_refl _) (by omega) (fun x hx e => by have := hzw x hx; omega)
      generalize (W.setCell ⟨w.heap.size, 0, none⟩ (.int .i64 n)).setCell ⟨w.heap.size, 1, none⟩ (.slice none 0 0) = V at *
      have x0 : V.cell? ⟨w.heap.size, 0, none⟩ = some (.int .i64 n) := bxV.cell 0
      have x1 : V.cell? ⟨w.heap.size, 1, none⟩ = some (.slice none 0 0) := bxV.cell 1
      refine bodyPost_ret (v := .agg #[.int .i64 n, .slice none 0 0]) (by simp [results, Try.results139, go_sem, x0, x1]) rfl ?_
      exact ⟨none, 0, 0, rfl, rfl, Rd.nil, Nat.le_refl _, by simp [maxLen], htV⟩
    · rw [if_pos hf]
      have hfb : (f1 == 0) = false := by simpa using hf
      have bR0 := (Blk.new w 26 #[.int .i64 0, .slice none 0 0]).alloc (.cells #[.int .i64 0, .slice none 0 0] 26)
      have bL0 := Blk.new (w.alloc (.cells #[.int .i64 0, .slice none 0 0] 26)) 26 #[.int .i64 0, .slice none 0 0]
      have hz0 : (w.alloc (.cells #[.int .i64 0, .slice none 0 0] 26)).heap.size = w.heap.size + 1 := by simp
      rw [hz0] at bL0
      have hlow0 : Below w.heap.size w ((w.alloc (.cells #[.int .i64 0, .slice none 0 0] 26)).alloc (.cells #[.int .i64 0, .slice none 0 0] 26)) := (by repeat (first | exact Below.refl _ _ | refine Below.alloc ?_ (by simp) _ | refine Below.setCell ?_ (by simp) _ | refine Below.drew ?_))
      go_enter Try.func139, Try.ntmps139
      go_wp2_with fail
      generalize (w.alloc (.cells #[.int .i64 0, .slice none 0 0] 26)).alloc (.cells #[.int .i64 0, .slice none 0 0] 26) = W0 at *
      refine (HN.out _ (h.below hlow0)).mono ?_
      rintro e w1 ⟨rfl, h1⟩
      dsimp only at h1
      have hs1 := h1.fr.size
      have hsR := bR0.lt
      have hsL := bL0.lt
      have bR1 := bR0.fr h1.fr (by omega)
      have bL1 := bL0.fr h1.fr (by omega)
      have ht1 := EyeTo.after hlow0 h1
      have bL2 : Blk (w1.setCell ⟨w.heap.size + 1, 0, none⟩ (.int .i64 n)) (w.heap.size + 1) 26 #[.int .i64 n, .slice none 0 0] := by simpa using bL1.set_ 0 (.int .i64 n)
      have bR2 := bR1.far (p := ⟨w.heap.size + 1, 0, none⟩) (by simp) (.int .i64 n)
      have hf2 : Fr (fun x => x = w.heap.size + 1) w1 (w1.setCell ⟨w.heap.size + 1, 0, none⟩ (.int .i64 n)) := (Fr.refl (fun x => x = w.heap.size + 1) w1).setAt (w.heap.size + 1) 0 rfl _
      have ht2 := ht1.side hf2 (by omega) (by omega) (fun x hx e => by have := hzw x hx; omega)
      have hs2 := hf2.size
      have q0 := bL1.cell 0
      have q1 := bL1.frozen 0
      have r0 : (w1.setCell ⟨w.heap.size + 1, 0, none⟩ (.int .i64 n)).cell? ⟨w.heap.size + 1, 0, none⟩ = some (.int .i64 n) := bL2.cell 0
      obtain ⟨A2, c2, ha2⟩ := ht2.at_
      have u1 := ha2.c1
      have d0 : (w1.setCell ⟨w.heap.size + 1, 0, none⟩ (.int .i64 n)).cell? ⟨w.heap.size + 1, 0, none⟩ = some (.int .i64 n) := bL2.cell 0
      have d1 : (w1.setCell ⟨w.heap.size + 1, 0, none⟩ (.int .i64 n)).cell? ⟨w.heap.size + 1, 1, none⟩ = some (.slice none 0 0) := bL2.cell 1
      have e0 : (w1.setCell ⟨w.heap.size + 1, 0, none⟩ (.int .i64 n)).cell? ⟨w.heap.size, 0, none⟩ = some (.int .i64 0) := bR2.cell 0
      have e1 : (w1.setCell ⟨w.heap.size + 1, 0, none⟩ (.int .i64 n)).cell? ⟨w.heap.size, 1, none⟩ = some (.slice none 0 0) := bR2.cell 1
      have g0 := bR2.frozen 0
      have g1 := bR2.frozen 1
      clear h1 ht1 hf2 bR0 bL0 hlow0 HN
      go_wp2_with fail
      clear r0 q0 q1 bR1 bL1 u1 d0 d1 e0 e1 g0 g1
      generalize w1.setCell ⟨w.heap.size + 1, 0, none⟩ (.int .i64 n) = W at *
      have bLW := bL2
      have bRW := bR2
      have ht := ht2
      obtain ⟨bxV, hfV⟩ := Blk.two (x' := .int .i64 0) (y' := .slice none 0 0) bRW
      have htV := ht.side hfV (Nat.le_refl _) (by omega) (fun x hx e => by have := hzw x hx; omega)
      generalize (W.setCell ⟨w.heap.size, 0, none⟩ (.int .i64 0)).setCell ⟨w.heap.size, 1, none⟩ (.slice none 0 0) = V at *
      have x0 : V.cell? ⟨w.heap.size, 0, none⟩ = some (.int .i64 0) := bxV.cell 0
      have x1 : V.cell? ⟨w.heap.size, 1, none⟩ = some (.slice none 0 0) := bxV.cell 1
      refine bodyPost_ret (v := .agg #[.int .i64 0, .slice none 0 0]) (by simp [results, Try.results139, go_sem, x0, x1]) rfl ?_
      exact ⟨none, 0, 0, rfl, rfl, Rd.nil, Nat.le_refl _, by simp [maxLen], htV⟩
end Go.Proofs.Ytdnljmncdbcgeaa

/- tenderref21.Read. -/
namespace Go.Proofs.Ytdnljmncdbcgeaa
open Go.RowKit

set_option maxRecDepth 100000 in
set_option maxHeartbeats 2000000 in
theorem refEntryRead_any (eb : Nat) (Z : Nat → Prop) (A : Option Addr) (c : Nat) (l : List UInt8) (f : Int) (w : World) (h : EyeAt w 166 eb Z A c l f) (hz : ¬ Z eb) (hl : l.length ≤ 140737488355328) :
    Calls Try.prog 94 #[.pointer (some ⟨eb, 0, none⟩)] w fun e w' => ∃ (p : ByteArray) (A' : Option Addr) (n' c' : Nat), e = .returned (.agg #[.string p, .int .u64 ((entS l f).n : Int), .int .i64 ((entS l f).k : Int), .slice A' n' c']) ∧ Hid (tl p = (entS l f).p) ∧ Hid (n' = (entS l f).t.length) ∧ Rd w' Z 1 A' n' ((entS l f).t.map bv) ∧ EyeTo w 166 eb Z (entS l f).L (entS l f).f w' := by
  have hzz : ∀ x, (fun b => Z b ∧ b < w.heap.size) x → Z x := fun x h => h.1
  have hzw : ∀ x, (fun b => Z b ∧ b < w.heap.size) x → x < w.heap.size := fun x h => h.2
  have hz : ¬ (fun b => Z b ∧ b < w.heap.size) eb := fun h => hz h.1
  replace h := h.mono (Z' := fun b => Z b ∧ b < w.heap.size) (fun b h1 h2 => ⟨h2, h1⟩)
  suffices hs : Calls Try.prog 94 #[.pointer (some ⟨eb, 0, none⟩)] w fun e w' => ∃ (p : ByteArray) (A' : Option Addr) (n' c' : Nat), e = .returned (.agg #[.string p, .int .u64 ((entS l f).n : Int), .int .i64 ((entS l f).k : Int), .slice A' n' c']) ∧ Hid (tl p = (entS l f).p) ∧ Hid (n' = (entS l f).t.length) ∧ Rd w' (fun b => Z b ∧ b < w.heap.size) 1 A' n' ((entS l f).t.map bv) ∧ EyeTo w 166 eb (fun b => Z b ∧ b < w.heap.size) (entS l f).L (entS l f).f w' by
    refine hs.mono ?_
    rintro e w' ⟨p, A', n', c', h1, h2, h3, h4, h5⟩
    exact ⟨p, A', n', c', h1, h2, h3, h4.mono (fun b _ hb => hzz b hb), h5.mono hzz⟩
  clear hzz
  generalize hZ' : (fun b => Z b ∧ b < w.heap.size) = Y at *
  clear hZ'
  have hlt := h.1.lt
  have HTX := Lib.hid (fun w h => textR_any eb Y A c l f 96 w h hz (by omega))
  have l1' := textS_len l f 96
  have l1t := textS_tlen l f 96
  unfold entS
  generalize textS l f 96 = r1 at *
  obtain ⟨t1, L1, f1⟩ := r1
  dsimp only at *
  have HNM := Lib.hid (fun w A c h => eyeRead_any eb Y A c L1 f1 18446744073709551615 w h hz)
  have l2' := readS_len L1 f1 18446744073709551615
  have n2 := readS_le L1 f1 18446744073709551615
  generalize readS L1 f1 18446744073709551615 = r2 at *
  obtain ⟨n, L2, f2⟩ := r2
  dsimp only at *
  have HLF := Lib.hid (fun w A c h => leafReadR_any eb Y A c L2 f2 w h hz)
  have l3' := leafS_len L2 f2
  have l3t := leafS_tlen L2 f2
  generalize leafS L2 f2 = r3 at *
  obtain ⟨k, t3, L3, f3⟩ := r3
  dsimp only at *
  obtain ⟨M, hM⟩ : ∃ M, M = (if (if checkE t1 (n : Int) (k : Int) t3.length = 0 then (L3, f3) else failS L3 f3 2).2 ≠ 0 then (⟨[], 0, 0, [], (if checkE t1 (n : Int) (k : Int) t3.length = 0 then (L3, f3) else failS L3 f3 2).1, (if checkE t1 (n : Int) (k : Int) t3.length = 0 then (L3, f3) else failS L3 f3 2).2⟩ : ER) else ⟨t1, n, k, t3, (if checkE t1 (n : Int) (k : Int) t3.length = 0 then (L3, f3) else failS L3 f3 2).1, (if checkE t1 (n : Int) (k : Int) t3.length = 0 then (L3, f3) else failS L3 f3 2).2⟩) := ⟨_, rfl⟩
  rw [← hM]
  have HM := Lib.hid hM
  clear hM
  have bR0 := (Blk.new w 28 #[.string ⟨#[]⟩, .int .u64 0, .int .i64 0, .slice none 0 0]).alloc (.cells #[.string ⟨#[]⟩, .int .u64 0, .int .i64 0, .slice none 0 0] 28)
  have bx0 := Blk.new (w.alloc (.cells #[.string ⟨#[]⟩, .int .u64 0, .int .i64 0, .slice none 0 0] 28)) 28 #[.string ⟨#[]⟩, .int .u64 0, .int .i64 0, .slice none 0 0]
  have hz0 : (w.alloc (.cells #[.string ⟨#[]⟩, .int .u64 0, .int .i64 0, .slice none 0 0] 28)).heap.size = w.heap.size + 1 := by simp
  rw [hz0] at bx0
  have hlow0 : Below w.heap.size w ((w.alloc (.cells #[.string ⟨#[]⟩, .int .u64 0, .int .i64 0, .slice none 0 0] 28)).alloc (.cells #[.string ⟨#[]⟩, .int .u64 0, .int .i64 0, .slice none 0 0] 28)) := (by repeat (first | exact Below.refl _ _ | refine Below.alloc ?_ (by simp) _ | refine Below.setCell ?_ (by simp) _ | refine Below.drew ?_))
  go_enter Try.func94, Try.ntmps94
  go_wp2_with fail
  generalize (w.alloc (.cells #[.string ⟨#[]⟩, .int .u64 0, .int .i64 0, .slice none 0 0] 28)).alloc (.cells #[.string ⟨#[]⟩, .int .u64 0, .int .i64 0, .slice none 0 0] 28) = W0 at *
  have hs0 := bx0.lt
  refine (HTX.out _ (h.below hlow0)).mono ?_
  rintro e w1 ⟨A1, n1, c1, rfl, hn1, hr1, _, _, h1⟩
  obtain rfl := hn1.out
  have hy1 : By w1 Y A1 t1 := hr1
  have hs1 := h1.fr.size
  have bx1 := bx0.fr h1.fr (by omega)
  have bR1 := bR0.fr h1.fr (by omega)
  have ht1 := EyeTo.after hlow0 h1
  have k1 := conv_by hy1 c1
  have q0 : w1.cell? ⟨w.heap.size + 1, 0, none⟩ = some (.string ⟨#[]⟩) := bx1.cell 0
  have q1 := bx1.frozen 0
  go_wp2_with fail
  obtain ⟨ht2, bx2, hf2⟩ := box_set (o := 0) ht1 bx1 (by omega) (by omega) (fun x hx e => by have := hzw x hx; omega) (.string ⟨t1.toArray⟩)
  have bR2 := bR1.fr hf2 (by omega)
  have hs2 := hf2.size
  clear q0 q1 k1 bx0 bR0 hlow0 h1 ht1 HTX hr1 hy1 bR1
  generalize w1.setCell ⟨w.heap.size + 1, 0, none⟩ (.string ⟨t1.toArray⟩) = W2 at *
  obtain ⟨A2, c2, ha2⟩ := ht2.at_
  refine (HNM.out _ A2 c2 ha2).mono ?_
  rintro e w3 ⟨rfl, h3⟩
  dsimp only at h3
  have ht3 := ht2.trans h3
  have bx3 := bx2.fr h3.fr (by omega)
  have bR3 := bR2.fr h3.fr (by omega)
  have hs3 := h3.fr.size
  have q0 := bx3.cell 1
  have q1 := bx3.frozen 1
  simp at q0
  go_wp2_with fail
  obtain ⟨ht4, bx4, hf4⟩ := box_set (o := 1) ht3 bx3 (by omega) (by omega) (fun x hx e => by have := hzw x hx; omega) (.int .u64 (n : Int))
  have bR4 := bR3.fr hf4 (by omega)
  have hs4 := hf4.size
  clear q0 q1 bx2 h3 ht3 ht2 HNM hf2 ha2 bR2 bR3
  generalize w3.setCell ⟨w.heap.size + 1, 1, none⟩ (.int .u64 (n : Int)) = W4 at *
  obtain ⟨A4, c4, ha4⟩ := ht4.at_
  refine (HLF.out _ A4 c4 ha4).mono ?_
  rintro e w5 ⟨A5, n5, c5, rfl, hn5, hr5, _, _, h5⟩
  obtain rfl := hn5.out
  have hy5 : By w5 Y A5 t3 := hr5
  have ht5 := ht4.trans h5
  have bx5 := bx4.fr h5.fr (by omega)
  have bR5 := bR4.fr h5.fr (by omega)
  have hs5 := h5.fr.size
  have hl5s : t3.length ≤ 140737488355328 := by omega
  have q2 := bx5.cell 2
  have q3 := bx5.cell 3
  have g2 := bx5.frozen 2
  have g3 := bx5.frozen 3
  simp at q2 q3
  obtain ⟨ht6, bx6, hf6⟩ := box_set (o := 2) ht5 bx5 (by omega) (by omega) (fun x hx e => by have := hzw x hx; omega) (.int .i64 (k : Int))
  obtain ⟨ht7, bx7, hf7⟩ := box_set (o := 3) ht6 bx6 (by omega) (by omega) (fun x hx e => by have := hzw x hx; omega) (.slice A5 t3.length c5)
  have hs6 := hf6.size
  have bR7 := (bR5.fr hf6 (by omega)).fr hf7 (by omega)
  have hy7 := Rd.fr (Rd.fr hy5 hf6 (fun x _ hx e => by have := hzw x hx; omega)) hf7 (fun x _ hx e => by have := hzw x hx; omega)
  have r0 := bx7.cell 0
  have r1 := bx7.cell 1
  have r2 := bx7.cell 2
  have r3 := bx7.cell 3
  simp at r0 r1 r2 r3
  obtain ⟨A7, c7, ha7⟩ := ht7.at_
  have ea := ha7.c1
  by_cases hf : f3 = 0
  · subst hf
    have HCK := Lib.hid (fun w => refEntryCheck_any ⟨t1.toArray⟩ (n : Int) (k : Int) A5 t3.length c5 w (by show t1.length ≤ _; omega) (by omega) hl5s)
    rw [show tl ⟨t1.toArray⟩ = t1 from rfl] at HCK
    by_cases hC : checkE t1 (n : Int) (k : Int) t3.length = 0
    · have hM1 : M = ⟨t1, n, k, t3, L3, 0⟩ := by
        have h := HM.out
        rw [if_pos hC] at h
        simpa using h
      clear HM
      have HM2 := Lib.hid hM1
      clear hM1
      rw [hC] at HCK
      clear hC
      go_wp2_with fail
      simp only [List.setIfInBounds_toArray] at bx7
      replace bx7 : Blk ((w5.setCell ⟨w.heap.size + 1, 2, none⟩ (.int .i64 (k : Int))).setCell ⟨w.heap.size + 1, 3, none⟩ (.slice A5 t3.length c5)) (w.heap.size + 1) 28 #[.string ⟨t1.toArray⟩, .int .u64 (n : Int), .int .i64 (k : Int), .slice A5 t3.length c5] := bx7
      clear q2 q3 g2 g3 bx6 bx5 ht5 ht6 ht4 h5 HLF hf4 hf6 hf7 ha4 r0 r1 r2 r3 bx4 bx3 bR5 bR4 hy5 hr5 ea ha7
      generalize (w5.setCell ⟨w.heap.size + 1, 2, none⟩ (.int .i64 (k : Int))).setCell ⟨w.heap.size + 1, 3, none⟩ (.slice A5 t3.length c5) = W7 at *
      refine (HCK.out _).mono ?_
      rintro e w8 ⟨rfl, hb8⟩
      have ht8 := ht7.then_ hb8
      have bx8 := bx7.below hb8
      have bR8 := bR7.below hb8
      have hy8 := Rd.below hy7 hb8
      obtain ⟨A8, c8, ha8⟩ := ht8.at_
      have ea := ha8.c1
      have r0 : w8.cell? ⟨w.heap.size + 1, 0, none⟩ = some (.string ⟨t1.toArray⟩) := bx8.cell 0
      have r1 : w8.cell? ⟨w.heap.size + 1, 1, none⟩ = some (.int .u64 (n : Int)) := bx8.cell 1
      have r2 : w8.cell? ⟨w.heap.size + 1, 2, none⟩ = some (.int .i64 (k : Int)) := bx8.cell 2
      have r3 : w8.cell? ⟨w.heap.size + 1, 3, none⟩ = some (.slice A5 t3.length c5) := bx8.cell 3
      have d0 : w8.cell? ⟨w.heap.size, 0, none⟩ = some (.string ⟨#[]⟩) := bR8.cell 0
      have d1 : w8.cell? ⟨w.heap.size, 1, none⟩ = some (.int .u64 0) := bR8.cell 1
      have d2 : w8.cell? ⟨w.heap.size, 2, none⟩ = some (.int .i64 0) := bR8.cell 2
      have d3 : w8.cell? ⟨w.heap.size, 3, none⟩ = some (.slice none 0 0) := bR8.cell 3
      have g0 := bR8.frozen 0
      have g1 := bR8.frozen 1
      have g2 := bR8.frozen 2
      have g3 := bR8.frozen 3
      clear HCK ht7 bx7 bR7 hy7 hb8
      go_wp2_with fail
      obtain ⟨v1, b1, f1'⟩ := box_set (o := 0) ht8 bR8 (Nat.le_refl _) (by omega) (fun x hx e => by have := hzw x hx; omega) (.string ⟨t1.toArray⟩)
      obtain ⟨v2, b2, f2'⟩ := box_set (o := 1) v1 b1 (Nat.le_refl _) (by omega) (fun x hx e => by have := hzw x hx; omega) (.int .u64 (n : Int))
      obtain ⟨v3, b3, f3'⟩ := box_set (o := 2) v2 b2 (Nat.le_refl _) (by omega) (fun x hx e => by have := hzw x hx; omega) (.int .i64 (k : Int))
      obtain ⟨v4, b4, f4'⟩ := box_set (o := 3) v3 b3 (Nat.le_refl _) (by omega) (fun x hx e => by have := hzw x hx; omega) (.slice A5 t3.length c5)
      have hy9 := Rd.fr (Rd.fr (Rd.fr (Rd.fr hy8 f1' (fun x _ hx e => by have := hzw x hx; omega)) f2' (fun x _ hx e => by have := hzw x hx; omega)) f3' (fun x _ hx e => by have := hzw x hx; omega)) f4' (fun x _ hx e => by have := hzw x hx; omega)
      have d0 := b4.cell 0
      have d1 := b4.cell 1
      have d2 := b4.cell 2
      have d3 := b4.cell 3
      simp at d0 d1 d2 d3
      clear b1 b2 b3 b4 v1 v2 v3 f1' f2' f3' f4' r0 r1 r2 r3 g0 g1 g2 g3 hy8
      generalize (((w8.setCell ⟨w.heap.size, 0, none⟩ (.string ⟨t1.toArray⟩)).setCell ⟨w.heap.size, 1, none⟩ (.int .u64 (n : Int))).setCell ⟨w.heap.size, 2, none⟩ (.int .i64 (k : Int))).setCell ⟨w.heap.size, 3, none⟩ (.slice A5 t3.length c5) = V at *
      refine bodyPost_ret (v := .agg #[.string ⟨t1.toArray⟩, .int .u64 (n : Int), .int .i64 (k : Int), .slice A5 t3.length c5]) (by simp [results, Try.results94, go_sem, d0, d1, d2, d3]) rfl ?_
      rw [HM2.out]
      exact ⟨_, A5, _, c5, rfl, Lib.hid rfl, Lib.hid rfl, hy9, v4⟩
    · have hM1 : M = ⟨[], 0, 0, [], [], 2⟩ := by
        have h := HM.out
        rw [if_neg hC] at h
        simpa [failS] using h
      clear HM
      have HM2 := Lib.hid hM1
      clear hM1
      have hCb : (checkE t1 (n : Int) (k : Int) t3.length != 0) = true := by simpa using hC
      clear hC
      generalize checkE t1 (n : Int) (k : Int) t3.length = C at *
      go_wp2_with fail
      clear q2 q3 g2 g3 bx6 bx5 ht5 ht6 ht4 h5 HLF hf4 hf6 hf7 ha4 r0 r1 r2 r3 bx4 bx3 bR5 bR4 hy5 hr5 ea ha7 hy7 bx7
      generalize (w5.setCell ⟨w.heap.size + 1, 2, none⟩ (.int .i64 (k : Int))).setCell ⟨w.heap.size + 1, 3, none⟩ (.slice A5 t3.length c5) = W7 at *
      refine (HCK.out _).mono ?_
      rintro e w8 ⟨rfl, hb8⟩
      have ht8 := ht7.then_ hb8
      have bR8 := bR7.below hb8
      obtain ⟨A8, c8, ha8⟩ := ht8.at_
      clear HCK ht7 bR7 hb8
      go_wp2_with fail
      refine (failR_any eb Y A8 c8 L3 0 2 _ ha8).mono ?_
      rintro e w9 ⟨rfl, h9⟩
      rw [show failS L3 0 2 = ([], 2) by simp [failS]] at h9
      dsimp only at h9
      have ht9 := ht8.trans h9
      have bR9 := bR8.fr h9.fr (by omega)
      obtain ⟨A9, c9, ha9⟩ := ht9.at_
      have ea := ha9.c1
      have d0 : w9.cell? ⟨w.heap.size, 0, none⟩ = some (.string ⟨#[]⟩) := bR9.cell 0
      have d1 : w9.cell? ⟨w.heap.size, 1, none⟩ = some (.int .u64 0) := bR9.cell 1
      have d2 : w9.cell? ⟨w.heap.size, 2, none⟩ = some (.int .i64 0) := bR9.cell 2
      have d3 : w9.cell? ⟨w.heap.size, 3, none⟩ = some (.slice none 0 0) := bR9.cell 3
      have g0 := bR9.frozen 0
      have g1 := bR9.frozen 1
      have g2 := bR9.frozen 2
      have g3 := bR9.frozen 3
      clear h9 ht8 bR8 ha8
      go_wp2_with fail
      obtain ⟨v1, b1, f1'⟩ := box_set (o := 0) ht9 bR9 (Nat.le_refl _) (by omega) (fun x hx e => by have := hzw x hx; omega) (.string ⟨#[]⟩)
      obtain ⟨v2, b2, f2'⟩ := box_set (o := 1) v1 b1 (Nat.le_refl _) (by omega) (fun x hx e => by have := hzw x hx; omega) (.int .u64 0)
      obtain ⟨v3, b3, f3'⟩ := box_set (o := 2) v2 b2 (Nat.le_refl _) (by omega) (fun x hx e => by have := hzw x hx; omega) (.int .i64 0)
      obtain ⟨v4, b4, f4'⟩ := box_set (o := 3) v3 b3 (Nat.le_refl _) (by omega) (fun x hx e => by have := hzw x hx; omega) (.slice none 0 0)
      have d0 := b4.cell 0
      have d1 := b4.cell 1
      have d2 := b4.cell 2
      have d3 := b4.cell 3
      simp at d0 d1 d2 d3
      clear b1 b2 b3 b4 v1 v2 v3 f1' f2' f3' f4' g0 g1 g2 g3
      generalize (((w9.setCell ⟨w.heap.size, 0, none⟩ (.string ⟨#[]⟩)).setCell ⟨w.heap.size, 1, none⟩ (.int .u64 0)).setCell ⟨w.heap.size, 2, none⟩ (.int .i64 0)).setCell ⟨w.heap.size, 3, none⟩ (.slice none 0 0) = V at *
      refine bodyPost_ret (v := .agg #[.string ⟨#[]⟩, .int .u64 0, .int .i64 0, .slice none 0 0]) (by simp [results, Try.results94, go_sem, d0, d1, d2, d3]) rfl ?_
      rw [HM2.out]
      exact ⟨_, none, 0, 0, rfl, Lib.hid rfl, Lib.hid rfl, Rd.nil, v4⟩
  · have hM1 : M = ⟨[], 0, 0, [], L3, f3⟩ := by
      have h := HM.out
      have e : failS L3 f3 2 = (L3, f3) := by unfold failS; rw [if_neg (by omega)]
      rw [e, ite_self] at h
      simpa [hf] using h
    clear HM
    have HM2 := Lib.hid hM1
    clear hM1
    have hfb : (f3 == 0) = false := by simpa using hf
    have hfc : (f3 != 0) = true := by simpa using hf
    have d0 : ((w5.setCell ⟨w.heap.size + 1, 2, none⟩ (.int .i64 (k : Int))).setCell ⟨w.heap.size + 1, 3, none⟩ (.slice A5 t3.length c5)).cell? ⟨w.heap.size, 0, none⟩ = some (.string ⟨#[]⟩) := bR7.cell 0
    have d1 : ((w5.setCell ⟨w.heap.size + 1, 2, none⟩ (.int .i64 (k : Int))).setCell ⟨w.heap.size + 1, 3, none⟩ (.slice A5 t3.length c5)).cell? ⟨w.heap.size, 1, none⟩ = some (.int .u64 0) := bR7.cell 1
    have d2 : ((w5.setCell ⟨w.heap.size + 1, 2, none⟩ (.int .i64 (k : Int))).setCell ⟨w.heap.size + 1, 3, none⟩ (.slice A5 t3.length c5)).cell? ⟨w.heap.size, 2, none⟩ = some (.int .i64 0) := bR7.cell 2
    have d3 : ((w5.setCell ⟨w.heap.size + 1, 2, none⟩ (.int .i64 (k : Int))).setCell ⟨w.heap.size + 1, 3, none⟩ (.slice A5 t3.length c5)).cell? ⟨w.heap.size, 3, none⟩ = some (.slice none 0 0) := bR7.cell 3
    have e0 := bR7.frozen 0
    have e1 := bR7.frozen 1
    have e2 := bR7.frozen 2
    have e3 := bR7.frozen 3
    go_wp2_with fail
    obtain ⟨v1, b1, f1'⟩ := box_set (o := 0) ht7 bR7 (Nat.le_refl _) (by omega) (fun x hx e => by have := hzw x hx; omega) (.string ⟨#[]⟩)
    obtain ⟨v2, b2, f2'⟩ := box_set (o := 1) v1 b1 (Nat.le_refl _) (by omega) (fun x hx e => by have := hzw x hx; omega) (.int .u64 0)
    obtain ⟨v3, b3, f3'⟩ := box_set (o := 2) v2 b2 (Nat.le_refl _) (by omega) (fun x hx e => by have := hzw x hx; omega) (.int .i64 0)
    obtain ⟨v4, b4, f4'⟩ := box_set (o := 3) v3 b3 (Nat.le_refl _) (by omega) (fun x hx e => by have := hzw x hx; omega) (.slice none 0 0)
    clear d0 d1 d2 d3
    have d0 := b4.cell 0
    have d1 := b4.cell 1
    have d2 := b4.cell 2
    have d3 := b4.cell 3
    simp at d0 d1 d2 d3
    generalize (w5.setCell ⟨w.heap.size + 1, 2, none⟩ (.int .i64 (k : Int))).setCell ⟨w.heap.size + 1, 3, none⟩ (.slice A5 t3.length c5) = W7 at *
    clear b1 b2 b3 b4 v1 v2 v3 f1' f2' f3' f4' g2 g3
    generalize (((W7.setCell ⟨w.heap.size, 0, none⟩ (.string ⟨#[]⟩)).setCell ⟨w.heap.size, 1, none⟩ (.int .u64 0)).setCell ⟨w.heap.size, 2, none⟩ (.int .i64 0)).setCell ⟨w.heap.size, 3, none⟩ (.slice none 0 0) = V at *
    refine bodyPost_ret (v := .agg #[.string ⟨#[]⟩, .int .u64 0, .int .i64 0, .slice none 0 0]) (by simp [results, Try.results94, go_sem, d0, d1, d2, d3]) rfl ?_
    rw [HM2.out]
    exact ⟨_, none, 0, 0, rfl, Lib.hid rfl, Lib.hid rfl, Rd.nil, v4⟩
end Go.Proofs.Ytdnljmncdbcgeaa

/- tenderref01.Eye.Close. -/
namespace Go.Proofs.Ytdnljmncdbcgeaa
open Go.RowKit

set_option maxHeartbeats 400000 in
theorem closeR_any (eb : Nat) (Z : Nat → Prop) (A : Option Addr) (c : Nat) (l : List UInt8) (f : Int) (w : World) (h : EyeAt w 166 eb Z A c l f) :
    Calls Try.prog 96 #[.pointer (some ⟨eb, 0, none⟩)] w fun e w' => e = .returned (.int .i64 (closeS l f)) ∧ w = w' := by
  have c0 := h.c0
  have c1 := h.c1
  by_cases hf : f = 0
  · by_cases hl : 0 < l.length
    · have e1 := Lib.hid (show closeS l f = 12 by unfold closeS; rw [if_neg (by simpa using hf), if_pos hl])
      subst hf
      go_enter Try.func96, Try.ntmps96
      go_wp2_with fail
      go_ret
      exact ⟨by rw [e1.out]; rfl, rfl⟩
    · have e1 := Lib.hid (show closeS l f = 0 by unfold closeS; rw [if_neg (by simpa using hf), if_neg hl])
      subst hf
      go_enter Try.func96, Try.ntmps96
      go_wp2_with fail
      go_ret
      exact ⟨by rw [e1.out]; rfl, rfl⟩
  · have e1 := Lib.hid (show closeS l f = f by unfold closeS; rw [if_pos hf])
    have hfb : (f == 0) = false := by simpa using hf
    go_enter Try.func96, Try.ntmps96
    go_wp2_with fail
    go_ret
    exact ⟨by rw [e1.out]; rfl, rfl⟩
end Go.Proofs.Ytdnljmncdbcgeaa

/- tenderref22: Read. -/
namespace Go.Proofs.Ytdnljmncdbcgeaa
open Go.RowKit Go.Maps

/-- the document's eye and book -/
structure RfEye (w0 w : World) (eb : Nat) (L : List UInt8) (f : Int) (kb rb : Nat) (S : Int) (A : Option Addr) (d : Nat) (M : List EV) : Prop where
  e : ∃ A c, EyeAt w 166 eb (fun b => b < w0.heap.size) A c L f
  k : Blk w kb 33 #[.int .u64 S, .slice A M.length d]
  z : Blk w rb 33 #[.int .u64 0, .slice none 0 0]
  m : OwE w w0.heap.size A d M
  ok : ∀ x ∈ M, By w (fun b => b < w0.heap.size) x.x.A x.x.l
  low : Below w0.heap.size w0 w
  he : w0.heap.size ≤ eb
  hk : w0.heap.size ≤ kb
  hr : w0.heap.size ≤ rb
  ne : kb ≠ rb
section
variable {w0 w w' : World} {eb kb rb : Nat} {L L' : List UInt8} {f f' S : Int} {A : Option Addr} {d : Nat} {M : List EV}
theorem RfEye.mem (h : RfEye w0 w eb L f kb rb S A d M) (k : Below w.heap.size w w') : RfEye w0 w' eb L f kb rb S A d M := by
  obtain ⟨⟨A, c, e⟩, hk, hz, hm, hok, l, h1, h2, h3, h4⟩ := h
  exact ⟨⟨A, c, e.below k⟩, hk.below k, hz.below k, hm.below k, fun x hx => (hok x hx).below k, l.trans (k.mono l.size), h1, h2, h3, h4⟩
theorem RfEye.eye (h : RfEye w0 w eb L f kb rb S A d M) (k : EyeTo w 166 eb (fun b => b < w0.heap.size) L' f' w') : RfEye w0 w' eb L' f' kb rb S A d M := by
  obtain ⟨⟨A1, c, e⟩, hk, hz, hm, hok, l, h1, h2, h3, h4⟩ := h
  have n1 := hk.ne_ e.1 (by decide)
  have n2 := hz.ne_ e.1 (by decide)
  refine ⟨k.at_, hk.fr k.fr n1, hz.fr k.fr n2, own_fr hm k.fr (fun g hg e2 => ?_), fun x hx => (hok x hx).fr k.fr (fun b hb hz e => by have : b < w0.heap.size := hz; omega), l.trans (k.fr.below l.size (fun x _ e => by omega)), h1, h2, h3, h4⟩
  exact e.1.own_ne hm (by decide) (by rw [hg, e2])
/-- the row grown, and stored -/
theorem RfEye.push {A' : Option Addr} {d' : Nat} {y : EV} {w2 : World} (h : RfEye w0 w eb L f kb rb S A d M) (hy : By w (fun b => b < w0.heap.size) y.x.A y.x.l) (hm' : OwE w' w0.heap.size A' d' (M ++ [y])) (hb : Below w0.heap.size w w')
    (hf : ∀ k, k < w.heap.size → (Value.slice A M.length d).ownBlock ≠ some k → w'.heap[k]? = w.heap[k]?) (h2 : w2 = w'.setCell ⟨kb, 1, none⟩ (.slice A' (M.length + 1) d')) : RfEye w0 w2 eb L f kb rb S A' d' (M ++ [y]) := by
  rw [show M.length + 1 = (M ++ [y]).length by simp] at h2
  obtain ⟨⟨A1, c, e⟩, hk, hz, hm, hok, l, h1, h2', h3, h4⟩ := h
  have kf : Fr (fun g => (Value.slice A M.length d).ownBlock = some g) w w' := ⟨hb.os, hb.tape, hb.output, hb.size, fun b hb hs => hf b hb hs⟩
  have e1 := e.fr kf (fun hs => (e.1.own_ne hm (by decide)) hs) (fun b hb hz hs => by have := (hm.lt b hs).1; have : b < w0.heap.size := hz; omega)
  have k1 := hk.fr kf (fun hs => (hk.own_ne hm (by decide)) hs)
  have z1 := hz.fr kf (fun hs => (hz.own_ne hm (by decide)) hs)
  have ok1 : ∀ x ∈ M ++ [y], By w' (fun b => b < w0.heap.size) x.x.A x.x.l := fun x hx => by
    have : By w (fun b => b < w0.heap.size) x.x.A x.x.l := by
      rcases List.mem_append.1 hx with hx | hx
      · exact hok x hx
      · rw [List.mem_singleton.1 hx]; exact hy
    exact this.fr kf (fun b hb hz hs => by have := (hm.lt b hs).1; have : b < w0.heap.size := hz; omega)
  have l1 := l.trans hb
  have k2 : Fr (fun x => x = kb) w' w2 := by rw [h2]; exact (Fr.refl (fun x => x = kb) w').setAt kb _ rfl _
  have y2 := k1.set_ 1 (.slice A' (M ++ [y]).length d')
  rw [← h2] at y2
  simp only [List.setIfInBounds_toArray, List.set_cons_zero, List.set_cons_succ] at y2
  exact ⟨⟨A1, c, e1.fr k2 (fun e2 => (k1.ne_ e1.1 (by decide)) e2.symm) (fun b hb hz hs => by have : b < w0.heap.size := hz; omega)⟩, y2, z1.fr k2 (fun e => h4 e.symm), own_fr hm' k2 (fun g hg e2 => (k1.own_ne hm' (by decide)) (by rw [hg, e2])),
    fun x hx => (ok1 x hx).fr k2 (fun b hb hz hs => by have : b < w0.heap.size := hz; omega), l1.trans (k2.below l1.size (fun x _ e => by omega)), h1, h2', h3, h4⟩
end
/-- what Read tells -/
def RefRd (w : World) (l : List UInt8) (e : Ending) (w' : World) : Prop :=
  ((readB l).2.2 = 0 ∧ ∃ A d M, e = .returned (.tuple #[.agg #[.int .u64 ((readB l).1 : Int), .slice A M.length d], .int .i64 0]) ∧ EsB w' A M ∧ Hid (M.map EV.pl = (readB l).2.1)) ∨
  ((readB l).2.2 ≠ 0 ∧ e = .returned (.tuple #[.agg #[.int .u64 0, .slice none 0 0], .int .i64 (readB l).2.2]))

set_option maxRecDepth 100000 in
set_option maxHeartbeats 4000000 in
theorem refRead22_any (A : Option Addr) (c : Nat) (l : List UInt8) (w : World) (h : By w (fun b => b < w.heap.size) A l) (h1 : l.length ≤ c) (h2 : c ≤ maxLen) (hl : l.length ≤ 140737488355328) :
    Calls Try.prog 42 #[.slice A l.length c] w fun e w' => RefRd w l e w' ∧ Below w.heap.size w w' := by
  have hba : Below w.heap.size w (((w.alloc (.cells #[.int .u64 0, .slice none 0 0] 33)).alloc (.cells #[.slice A l.length c, .int .i64 0] 166)).alloc (.cells #[.int .u64 0, .slice none 0 0] 33)) := (((Below.refl _ _).alloc (Nat.le_refl _) _).alloc (by simp) _).alloc (by simp; omega) _
  have hz3 : Blk (((w.alloc (.cells #[.int .u64 0, .slice none 0 0] 33)).alloc (.cells #[.slice A l.length c, .int .i64 0] 166)).alloc (.cells #[.int .u64 0, .slice none 0 0] 33)) w.heap.size 33 #[.int .u64 0, .slice none 0 0] := ((Blk.new w 33 #[.int .u64 0, .slice none 0 0]).below ((Below.refl _ _).alloc (Nat.le_refl _) _)).below ((Below.refl _ _).alloc (Nat.le_refl _) _)
  have he3 : EyeAt (((w.alloc (.cells #[.int .u64 0, .slice none 0 0] 33)).alloc (.cells #[.slice A l.length c, .int .i64 0] 166)).alloc (.cells #[.int .u64 0, .slice none 0 0] 33)) 166 (w.heap.size + 1) (fun b => b < w.heap.size) A c l 0 := by
    have := (EyeAt.new (w.alloc (.cells #[.int .u64 0, .slice none 0 0] 33)) (T := 166) (h.alloc _) h1 h2).below ((Below.refl _ _).alloc (Nat.le_refl _) (.cells #[.int .u64 0, .slice none 0 0] 33))
    rwa [show (w.alloc (.cells #[.int .u64 0, .slice none 0 0] 33)).heap.size = w.heap.size + 1 by simp] at this
  have hk3 : Blk (((w.alloc (.cells #[.int .u64 0, .slice none 0 0] 33)).alloc (.cells #[.slice A l.length c, .int .i64 0] 166)).alloc (.cells #[.int .u64 0, .slice none 0 0] 33)) (w.heap.size + 1 + 1) 33 #[.int .u64 0, .slice none 0 0] := by
    have := Blk.new ((w.alloc (.cells #[.int .u64 0, .slice none 0 0] 33)).alloc (.cells #[.slice A l.length c, .int .i64 0] 166)) 33 #[.int .u64 0, .slice none 0 0]
    rwa [show ((w.alloc (.cells #[.int .u64 0, .slice none 0 0] 33)).alloc (.cells #[.slice A l.length c, .int .i64 0] 166)).heap.size = w.heap.size + 1 + 1 by simp] at this
  have HK3 : Hid (RfEye w (((w.alloc (.cells #[.int .u64 0, .slice none 0 0] 33)).alloc (.cells #[.slice A l.length c, .int .i64 0] 166)).alloc (.cells #[.int .u64 0, .slice none 0 0] 33)) (w.heap.size + 1) l 0 (w.heap.size + 1 + 1) w.heap.size 0 none 0 []) := Lib.hid ⟨⟨A, c, he3⟩, hk3, hz3, World.ownsRow_nil _ _ _ _, by simp, hba, by omega, by omega, Nat.le_refl _, by omega⟩
  obtain ⟨r1, hr1⟩ : ∃ r, r = readS l 0 1099511627776 := ⟨_, rfl⟩
  have hl1 := readS_len l 0 1099511627776
  rw [← hr1] at hl1
  obtain ⟨S0, L1, f1⟩ := r1
  dsimp only at hl1
  obtain ⟨r2, hr2⟩ : ∃ r, r = intS L1 f1 256 := ⟨_, rfl⟩
  have hl2 := intS_len L1 f1 256
  have hn2 := intS_max L1 f1 256
  rw [show ((256 : Nat) : Int) = 256 from rfl] at hn2
  rw [← hr2] at hl2 hn2
  obtain ⟨n, L2, f2⟩ := r2
  dsimp only at hl2 hn2
  have HRB : Hid (readB l = (S0, (readGo n [] L2 f2).1, closeS (readGo n [] L2 f2).2.1 (readGo n [] L2 f2).2.2)) := Lib.hid (by
    unfold readB
    rw [← hr1]
    dsimp only
    rw [← hr2])
  have HR1 := Lib.hid hr1.symm
  have HR2 := Lib.hid hr2.symm
  have HZ : Hid (¬ (fun b => b < w.heap.size) (w.heap.size + 1)) := Lib.hid (by simp)
  have HNM := Lib.hid (eyeRead_any (w.heap.size + 1) _ A c l 0 1099511627776 _ he3 HZ.out)
  rw [HR1.out] at HNM
  clear hr1 hr2 h he3 hk3 hz3
  go_enter Try.func42, Try.ntmps42
  go_wp2_with fail
  generalize (((w.alloc (.cells #[.int .u64 0, .slice none 0 0] 33)).alloc (.cells #[.slice A l.length c, .int .i64 0] 166)).alloc (.cells #[.int .u64 0, .slice none 0 0] 33)) = w3 at *
  refine HNM.out.mono ?_
  rintro e w4 ⟨rfl, ht4⟩
  dsimp only at ht4 ⊢
  have HK4 := HK3.out.eye ht4
  have y4 := HK4.k
  have fr4 := fun o => y4.frozen o
  have s0 := y4.cell 0
  have s1 := y4.cell 1
  simp only [List.getElem?_toArray, List.getElem?_cons_zero, List.getElem?_cons_succ] at s0 s1
  obtain ⟨S, hS⟩ : ∃ S, S = (S0 : Int) := ⟨_, rfl⟩
  have HSS := Lib.hid hS
  rw [← hS]
  have hK5 : RfEye w (w4.setCell ⟨w.heap.size + 1 + 1, 0, none⟩ (.int .u64 S)) (w.heap.size + 1) L1 f1 (w.heap.size + 1 + 1) w.heap.size S none 0 [] := by
    have k2 : Fr (fun x => x = w.heap.size + 1 + 1) w4 (w4.setCell ⟨w.heap.size + 1 + 1, 0, none⟩ (.int .u64 S)) := (Fr.refl (fun x => x = w.heap.size + 1 + 1) w4).setAt (w.heap.size + 1 + 1) _ rfl _
    obtain ⟨⟨A1, c1, e1⟩, hk, hz, hm, hok, lw, h1, h2, h3, h4⟩ := HK4
    have y2 := hk.set_ 0 (.int .u64 S)
    simp only [List.setIfInBounds_toArray, List.set_cons_zero, List.set_cons_succ] at y2
    exact ⟨⟨A1, c1, e1.fr k2 (fun e => by omega) (fun b hb hz hs => by have : b < w.heap.size := hz; omega)⟩, y2, hz.fr k2 (fun e => by omega), World.ownsRow_nil _ _ _ _, by simp, lw.trans (k2.below lw.size (fun x _ e => by omega)), h1, h2, h3, h4⟩
  obtain ⟨A5, c5, hA5⟩ := hK5.e
  have HIT := Lib.hid (intR_any (w.heap.size + 1) _ A5 c5 L1 f1 256 _ hA5 HZ.out (by decide))
  rw [HR2.out] at HIT
  have HK5 := Lib.hid hK5
  clear HNM HK3 ht4 hS hK5 hA5 y4
  go_upto_region 4 with (fail)
  generalize w4.setCell ⟨w.heap.size + 1 + 1, 0, none⟩ (.int .u64 S) = w5 at *
  clear fr4 s0 s1
  go_wp2_with fail
  refine HIT.out.mono ?_
  rintro e w6 ⟨rfl, ht6⟩
  have HK6 := Lib.hid (HK5.out.eye ht6)
  clear HIT ht6 HK5
  go_wp2_with fail
  go_loopw [7] (fun iv wr => ∃ (i : Nat) (T : List (List UInt8 × EP)) (L : List UInt8) (f : Int) (A3 : Option Addr) (d3 : Nat) (M : List EV), i ≤ n ∧ iv = .int .i64 (i : Int) ∧ Hid (readGo n [] L2 f2 = readGo (n - i) T L f) ∧ RfEye w wr (w.heap.size + 1) L f (w.heap.size + 1 + 1) w.heap.size S A3 d3 M ∧ Hid (f = 0 → M.map EV.pl = T ∧ T.length = i) ∧ L.length ≤ l.length ∧ M.length ≤ i ∧ Hid (∀ x ∈ M, x.p.size ≤ 96)) (fun iv _ => n - (intOf iv).toNat)
  case atStart => exact ⟨0, [], L2, f2, none, 0, [], Nat.zero_le _, rfl, rfl, HK6.out, fun _ => ⟨rfl, rfl⟩, by omega, Nat.le_refl _, by show ∀ x ∈ ([] : List EV), _; simp⟩
  case round =>
    obtain ⟨i, T, L, f, A3, d3, M, hi, rfl, hgo, hK, hf, hL, hM, hP⟩ := hrel
    obtain ⟨A4, c4, hA4⟩ := hK.e
    have e0 := hA4.c0
    have e1 := hA4.c1
    have HKR := Lib.hid hK
    clear HK6
    by_cases hif : i < n ∧ f = 0
    · obtain ⟨hin, rfl⟩ := hif
      obtain ⟨m, hm⟩ : ∃ m, n - i = m + 1 := ⟨n - i - 1, by omega⟩
      have hm2 : n - (i + 1) = m := by omega
      obtain ⟨hpl, hlen⟩ := hf.out rfl
      have hrd := refEntryRead_any (w.heap.size + 1) _ A4 c4 L 0 wr hA4 HZ.out (by omega)
      have hsm := entS_small L 0
      have hln := entS_len L 0
      have hg1 := @readGo_fault m T L
      have hg2 := @readGo_order m T L
      have hg3 := @readGo_next m T L
      obtain ⟨r, hr⟩ : ∃ r, r = entS L 0 := ⟨_, rfl⟩
      rw [← hr] at hrd hsm hln hg1 hg2 hg3
      obtain ⟨hs1, hs2, hs3⟩ := hsm
      have HRD := Lib.hid hrd
      have HG1 := Lib.hid hg1
      have HG2 := Lib.hid hg2
      have HG3 := Lib.hid hg3
      have HGO := Lib.hid hgo.out
      rw [hm] at HGO
      have HPL := Lib.hid hpl
      have HLN := Lib.hid hlen
      clear hrd hg1 hg2 hg3 hpl hlen hr hf hA4 hgo
      go_wp2_with fail
      refine HRD.out.mono ?_
      rintro e w5 ⟨p, A5, n5, c5, rfl, hp, hn5, hr5, ht5⟩
      obtain rfl := hn5.out
      have hps : p.size ≤ 96 := by rw [← tl_len, hp.out]; exact hs1
      have hK5 := hK.eye ht5
      have hba5 : Below w5.heap.size w5 (w5.alloc (.cells #[.string p, .int .u64 (r.n : Int), .int .i64 (r.k : Int), .slice A5 r.t.length c5] 28)) := (Below.refl _ _).alloc (Nat.le_refl _) _
      have z6 := Blk.new w5 28 #[.string p, .int .u64 (r.n : Int), .int .i64 (r.k : Int), .slice A5 r.t.length c5]
      have HK6 := Lib.hid (hK5.mem hba5)
      have HY6 : Hid (By (w5.alloc (.cells #[.string p, .int .u64 (r.n : Int), .int .i64 (r.k : Int), .slice A5 r.t.length c5] 28)) (fun b => b < w.heap.size) A5 r.t) := Lib.hid (hr5.below hba5)
      have HPP := Lib.hid hp.out
      clear hK hK5 hn5 hr5 ht5 HRD HKR hp e0 e1
      go_upto_region 9 with (fail)
      generalize w5.alloc (.cells #[.string p, .int .u64 (r.n : Int), .int .i64 (r.k : Int), .slice A5 r.t.length c5] 28) = w6 at *
      clear hba5
      obtain ⟨A7, c7, hA7⟩ := HK6.out.e
      have e0 := hA7.c0
      have e1 := hA7.c1
      by_cases hrf : r.f = 0
      · have hfb : (r.f != 0) = false := by simpa using hrf
        obtain ⟨y, hy⟩ : ∃ y : EV, y = ⟨p, r.n, r.k, ⟨A5, c5, r.t⟩⟩ := ⟨_, rfl⟩
        have HYE := Lib.hid hy
        have hyp : y.pl = (r.p, r.ep) := by rw [hy, ← HPP.out]; rfl
        have HPN : Hid (∀ x ∈ M ++ [y], x.p.size ≤ 96) := Lib.hid (fun x hx => by
          rcases List.mem_append.1 hx with hx | hx
          · exact hP.out x hx
          · rw [List.mem_singleton.1 hx, hy]; exact hps)
        have HFN : Hid (r.f = 0 → (M ++ [y]).map EV.pl = T ++ [(r.p, r.ep)] ∧ (T ++ [(r.p, r.ep)]).length = i + 1) := Lib.hid (fun _ => by
          refine ⟨by rw [List.map_append, HPL.out, List.map_cons, List.map_nil, hyp], by simp [HLN.out]⟩)
        clear hy hyp
        go_upto_region 10 with (fail)
        clear e0 e1 hA7
        have hud : undef = Value.tuple #[] := rfl
        by_cases hi0 : i = 0
        · subst hi0
          have hT : T = [] := List.eq_nil_of_length_eq_zero (by rw [HLN.out])
          have HGN : Hid (readGo n [] L2 f2 = readGo (n - (0 + 1)) (T ++ [(r.p, r.ep)]) r.L r.f) := Lib.hid (by
            rw [HGO.out, hm2, HG3.out hrf (.inl hT), hrf])
          have hid0 : decide ((0 : Int) < ((0 : Nat) : Int)) = false := rfl
          have HMC : Hid True := trivial
          have HCP : Hid True := trivial
          clear hT
          refine wp_region_b 15 (by kernel_rfl) (by kernel_rfl) ?_
          simp only [List.take_succ_cons, List.take_zero, List.drop_succ_cons, List.drop_zero]
          refine lb_move _ (by kernel_rfl) rfl ⟨_, (by ((try simp [go_sem]); (try rfl); done)), _, (by (simp only [Act.put, List.setIfInBounds_toArray, List.set_cons_zero, List.set_cons_succ]; rfl)), ?_⟩
          refine lb_val (by kernel_rfl) ⟨_, (by (intro w' hC; clear hC; (try go_simp); (try with_reducible rfl); done)), _, (by (simp only [Act.put, List.setIfInBounds_toArray, List.set_cons_zero, List.set_cons_succ]; rfl)), ?_⟩
          refine lb_move _ (by kernel_rfl) rfl ⟨_, (by ((try simp [go_sem]); (try rfl); done)), _, (by (simp only [Act.put, List.setIfInBounds_toArray, List.set_cons_zero, List.set_cons_succ]; rfl)), ?_⟩
          first | (refine lb_skip (by rfl) ⟨_, (by (simp only [Act.put, List.setIfInBounds_toArray, List.set_cons_zero, List.set_cons_succ]; rfl)), ?_⟩) | (refine lb_val (by kernel_rfl) ⟨_, (by (intro w' hC; clear hC; (try go_simp); (try with_reducible rfl); done)), _, (by (simp only [Act.put, List.setIfInBounds_toArray, List.set_cons_zero, List.set_cons_succ]; rfl)), ?_⟩)
          first | (refine lb_skip (by rfl) ⟨_, (by (simp only [Act.put, List.setIfInBounds_toArray, List.set_cons_zero, List.set_cons_succ]; rfl)), ?_⟩) | (refine lb_val (by kernel_rfl) ⟨_, (by (intro w' hC; (have q1 := ((HK6.out.mem hC).k).cell 1; simp only [List.getElem?_toArray, List.getElem?_cons_zero, List.getElem?_cons_succ] at q1); clear hC; (try go_simp); (try with_reducible rfl); done)), _, (by (simp only [Act.put, List.setIfInBounds_toArray, List.set_cons_zero, List.set_cons_succ]; rfl)), ?_⟩)
          first | (refine lb_skip (by rfl) ⟨_, (by (simp only [Act.put, List.setIfInBounds_toArray, List.set_cons_zero, List.set_cons_succ]; rfl)), ?_⟩) | (refine lb_move _ (by kernel_rfl) rfl ⟨_, (by ((try simp [go_sem]); (try rfl); done)), _, (by (simp only [Act.put, List.setIfInBounds_toArray, List.set_cons_zero, List.set_cons_succ]; rfl)), ?_⟩)
          first | (refine lb_skip (by rfl) ⟨_, (by (simp only [Act.put, List.setIfInBounds_toArray, List.set_cons_zero, List.set_cons_succ]; rfl)), ?_⟩) | (refine lb_val (by kernel_rfl) ⟨_, (by (intro w' hC; clear hC; (try go_simp); (try with_reducible rfl); done)), _, (by (simp only [Act.put, List.setIfInBounds_toArray, List.set_cons_zero, List.set_cons_succ]; rfl)), ?_⟩)
          first | (refine lb_skip (by rfl) ⟨_, (by (simp only [Act.put, List.setIfInBounds_toArray, List.set_cons_zero, List.set_cons_succ]; rfl)), ?_⟩) | (refine lb_val (by kernel_rfl) ⟨_, (by (intro w' hC; clear hC; (try go_simp); (try with_reducible rfl); done)), _, (by (simp only [Act.put, List.setIfInBounds_toArray, List.set_cons_zero, List.set_cons_succ]; rfl)), ?_⟩)
          first | (refine lb_skip (by rfl) ⟨_, (by (simp only [Act.put, List.setIfInBounds_toArray, List.set_cons_zero, List.set_cons_succ]; rfl)), ?_⟩) | (refine lb_val (by kernel_rfl) ⟨_, (by (intro w' hC; clear hC; (try go_simp); (try with_reducible rfl); done)), _, (by (simp only [Act.put, List.setIfInBounds_toArray, List.set_cons_zero, List.set_cons_succ]; rfl)), ?_⟩)
          first | (refine lb_skip (by rfl) ⟨_, (by (simp only [Act.put, List.setIfInBounds_toArray, List.set_cons_zero, List.set_cons_succ]; rfl)), ?_⟩) | (refine lb_val (by kernel_rfl) ⟨_, (by (intro w' hC; (have c0 := HMC.out w' hC); clear hC; (try go_simp); (try with_reducible rfl); done)), _, (by (simp only [Act.put, List.setIfInBounds_toArray, List.set_cons_zero, List.set_cons_succ]; rfl)), ?_⟩)
          first | (refine lb_skip (by rfl) ⟨_, (by (simp only [Act.put, List.setIfInBounds_toArray, List.set_cons_zero, List.set_cons_succ]; rfl)), ?_⟩) | (refine lb_val (by kernel_rfl) ⟨_, (by (intro w' hC; clear hC; (try go_simp); (try with_reducible rfl); done)), _, (by (simp only [Act.put, List.setIfInBounds_toArray, List.set_cons_zero, List.set_cons_succ]; rfl)), ?_⟩)
          first | (refine lb_skip (by rfl) ⟨_, (by (simp only [Act.put, List.setIfInBounds_toArray, List.set_cons_zero, List.set_cons_succ]; rfl)), ?_⟩) | (refine lb_val (by kernel_rfl) ⟨_, (by (intro w' hC; (have q0 := (z6.below hC).cell 0; simp only [List.getElem?_toArray, List.getElem?_cons_zero, List.getElem?_cons_succ] at q0); clear hC; (try go_simp); (try with_reducible rfl); done)), _, (by (simp only [Act.put, List.setIfInBounds_toArray, List.set_cons_zero, List.set_cons_succ]; rfl)), ?_⟩)
          first | (refine lb_skip (by rfl) ⟨_, (by (simp only [Act.put, List.setIfInBounds_toArray, List.set_cons_zero, List.set_cons_succ]; rfl)), ?_⟩) | (refine lb_call (by kernel_rfl) (fun w' hC => HCP.out w') (by (intro w'; go_simp; done)) ⟨_, (by (simp only [Act.put, List.setIfInBounds_toArray, List.set_cons_zero, List.set_cons_succ]; rfl)), ?_⟩)
          first | (refine lb_skip (by rfl) ⟨_, (by (simp only [Act.put, List.setIfInBounds_toArray, List.set_cons_zero, List.set_cons_succ]; rfl)), ?_⟩) | (refine lb_val (by kernel_rfl) ⟨_, (by (intro w' hC; clear hC; (try go_simp); (try with_reducible rfl); done)), _, (by (simp only [Act.put, List.setIfInBounds_toArray, List.set_cons_zero, List.set_cons_succ]; rfl)), ?_⟩)
          refine lb_val (by kernel_rfl) ⟨_, (by (intro w' hC; clear hC; (try go_simp); (try with_reducible rfl); done)), _, (by (simp only [Act.put, List.setIfInBounds_toArray, List.set_cons_zero, List.set_cons_succ]; rfl)), ?_⟩
          refine .nil ?_
          intro w7 hb7
          clear hud HMC HCP HGO HG1 HG2 HG3
          have HK8 := Lib.hid (HK6.out.mem hb7)
          have z8 := z6.below hb7
          have k8 := HK8.out.k
          have q0 := z8.cell 0
          have q1 := z8.cell 1
          have q2 := z8.cell 2
          have q3 := z8.cell 3
          simp only [List.getElem?_toArray, List.getElem?_cons_zero, List.getElem?_cons_succ] at q0 q1 q2 q3
          have p0 := k8.cell 0
          have p1 := k8.cell 1
          simp only [List.getElem?_toArray, List.getElem?_cons_zero, List.getElem?_cons_succ] at p0 p1
          have fr8 := fun o => k8.frozen o
          have ho8 := HK8.out.m
          have hl8 := ho8.lt
          have HO9 := Lib.hid (ho8.below ((Below.refl _ w7).alloc (Nat.le_refl _) (.cells #[.string p, .int .u64 (r.n : Int), .int .i64 (r.k : Int), .slice A5 r.t.length c5] 28)))
          have HR9 : Hid (Rd (w7.alloc (.cells #[.string p, .int .u64 (r.n : Int), .int .i64 (r.k : Int), .slice A5 r.t.length c5] 28)) (fun _ => True) 4 (some ⟨w7.heap.size, 0, none⟩) 1 (EV.cells y)) := (Rd.lit (w := w7) (t := 28) (size := 4) (n := 1) (xs := EV.cells y) (by rw [HYE.out]; rfl) (by rw [HYE.out]; rfl) rfl).mono (fun _ _ _ => trivial)
          have HK9 := Lib.hid (HK8.out.mem ((Below.refl _ w7).alloc (Nat.le_refl _) (.cells #[.string p, .int .u64 (r.n : Int), .int .i64 (r.k : Int), .slice A5 r.t.length c5] 28)))
          have HY9 := Lib.hid ((HY6.out.below hb7).below ((Below.refl _ w7).alloc (Nat.le_refl _) (.cells #[.string p, .int .u64 (r.n : Int), .int .i64 (r.k : Int), .slice A5 r.t.length c5] 28)))
          have hs9 : w.heap.size ≤ (w7.alloc (.cells #[.string p, .int .u64 (r.n : Int), .int .i64 (r.k : Int), .slice A5 r.t.length c5] 28)).heap.size := HK9.out.low.size
          have kbl := k8.lt
          clear ho8 hb7 HK6 z6 HY6
          go_wp2_with (at_builtin; refine wpList_append_entry rfl (.tmp 55) (.tmp 57) (t := 22) rfl rfl rfl HO9.out rfl HR9.out (by omega) hs9 ?_; intro Ab db wb hob hbb hkb; have k10 : Blk wb (w.heap.size + 1 + 1) 33 #[.int .u64 S, .slice A3 M.length d3] := ((HK9.out.k).fr (⟨hbb.os, hbb.tape, hbb.output, hbb.size, fun b hb hs => hkb b hb hs⟩ : Fr (fun g => (Value.slice A3 M.length d3).ownBlock = some g) _ wb) (fun hs => (HK9.out.k.own_ne HO9.out (by decide)) hs)); have fr10 := fun o => k10.frozen o; have m10 := k10.cell 1; simp only [List.getElem?_toArray, List.getElem?_cons_zero, List.getElem?_cons_succ] at m10)
          have HK11 := Lib.hid (HK9.out.push (by rw [HYE.out]; exact HY9.out) hob hbb hkb rfl)
          generalize (wb.setCell ⟨w.heap.size + 1 + 1, 1, none⟩ (.slice Ab (M.length + 1) db)) = w11 at *
          go_roundw
          case rel => exact ⟨0 + 1, T ++ [(r.p, r.ep)], r.L, r.f, Ab, db, M ++ [y], hin, by go_num, HGN.out, HK11.out, HFN.out, by omega, by rw [List.length_append]; simp only [List.length_cons, List.length_nil]; omega, HPN.out⟩
          case measure => simp [intOf]; omega
        · obtain ⟨j, rfl⟩ : ∃ j, i = j + 1 := ⟨i - 1, by omega⟩
          have hid0 : decide ((0 : Int) < ((j + 1 : Nat) : Int)) = true := decide_eq_true (by omega)
          have hMl : M.length = j + 1 := by
            have := congrArg List.length HPL.out
            rw [List.length_map, HLN.out] at this
            exact this
          have hjM : j < M.length := by omega
          have hlp : lastP T = tl M[j].p := by
            have h2 : M = M.take j ++ [M[j]] := by
              rw [← List.take_succ_eq_append_getElem hjM, List.take_of_length_le (by omega)]
            rw [← HPL.out]
            conv => lhs; rw [h2]
            rw [List.map_append, List.map_cons, List.map_nil, lastP_snoc]
            rfl
          have hTn : T ≠ [] := by rintro rfl; have := HLN.out; simp at this
          have hpj := hP.out _ (List.getElem_mem hjM)
          have hes : EsB w6 A3 M := ⟨Rd.of_own HK6.out.m (fun _ _ _ => trivial), fun x hx => (HK6.out.ok x hx).mono (fun _ _ _ => trivial), by omega⟩
          obtain ⟨b, off, hA, hbb, c0, _, _, _⟩ := hes.at_ hjM
          obtain ⟨pj, hpj2⟩ : ∃ q, q = M[j].p := ⟨_, rfl⟩
          rw [← hpj2] at c0 hlp hpj
          have HMC : Hid (∀ W, Below w6.heap.size w6 W → W.cell? ⟨b, off + j * 4, none⟩ = some (.string pj)) := Lib.hid (fun W hW => by rw [hW.cell hbb]; exact c0)
          have HCP := Lib.hid (fun W => refCompare_any pj p (by omega) (by omega) W)
          obtain ⟨cm, hcm⟩ : ∃ cm, cm = cmpT (tl pj) (tl p) := ⟨_, rfl⟩
          rw [← hcm] at HCP
          rw [HPP.out, ← hlp] at hcm
          have HCM := Lib.hid hcm
          have HLP := Lib.hid hTn
          have hj1 : ((j + 1 : Nat) : Int) - 1 = (j : Int) := by omega
          have hjj : (j : Int) < (M.length : Int) := by omega
          have hwj : IntKind.i64.wrap (j : Int) = (j : Int) := IntWalk.i64_in _ ⟨by omega, by omega⟩
          subst hA
          have HML := Lib.hid hMl
          clear hes c0 hlp hpj hpj2 hcm hTn hj1 hMl
          by_cases hc : 0 ≤ cm
          · have hcd : decide (0 ≤ cm) = true := decide_eq_true hc
            have HGN : Hid (readGo n [] L2 f2 = readGo (n - (j + 1 + 1)) T [] 10) := Lib.hid (by
              rw [HGO.out, hm2, HG2.out hrf HLP.out (by rw [← HCM.out]; exact hc)])
            refine wp_region_b 15 (by kernel_rfl) (by kernel_rfl) ?_
            simp only [List.take_succ_cons, List.take_zero, List.drop_succ_cons, List.drop_zero]
            refine lb_move _ (by kernel_rfl) rfl ⟨_, (by ((try simp [go_sem]); (try rfl); done)), _, (by (simp only [Act.put, List.setIfInBounds_toArray, List.set_cons_zero, List.set_cons_succ]; rfl)), ?_⟩
            refine lb_val (by kernel_rfl) ⟨_, (by (intro w' hC; clear hC; (try go_simp); (try with_reducible rfl); done)), _, (by (simp only [Act.put, List.setIfInBounds_toArray, List.set_cons_zero, List.set_cons_succ]; rfl)), ?_⟩
            refine lb_move _ (by kernel_rfl) rfl ⟨_, (by ((try simp [go_sem]); (try rfl); done)), _, (by (simp only [Act.put, List.setIfInBounds_toArray, List.set_cons_zero, List.set_cons_succ]; rfl)), ?_⟩
            first | (refine lb_skip (by rfl) ⟨_, (by (simp only [Act.put, List.setIfInBounds_toArray, List.set_cons_zero, List.set_cons_succ]; rfl)), ?_⟩) | (refine lb_val (by kernel_rfl) ⟨_, (by (intro w' hC; clear hC; (try go_simp); (try with_reducible rfl); done)), _, (by (simp only [Act.put, List.setIfInBounds_toArray, List.set_cons_zero, List.set_cons_succ]; rfl)), ?_⟩)
            first | (refine lb_skip (by rfl) ⟨_, (by (simp only [Act.put, List.setIfInBounds_toArray, List.set_cons_zero, List.set_cons_succ]; rfl)), ?_⟩) | (refine lb_val (by kernel_rfl) ⟨_, (by (intro w' hC; (have q1 := ((HK6.out.mem hC).k).cell 1; simp only [List.getElem?_toArray, List.getElem?_cons_zero, List.getElem?_cons_succ] at q1); clear hC; (try go_simp); (try with_reducible rfl); done)), _, (by (simp only [Act.put, List.setIfInBounds_toArray, List.set_cons_zero, List.set_cons_succ]; rfl)), ?_⟩)
            first | (refine lb_skip (by rfl) ⟨_, (by (simp only [Act.put, List.setIfInBounds_toArray, List.set_cons_zero, List.set_cons_succ]; rfl)), ?_⟩) | (refine lb_move _ (by kernel_rfl) rfl ⟨_, (by ((try simp [go_sem]); (try rfl); done)), _, (by (simp only [Act.put, List.setIfInBounds_toArray, List.set_cons_zero, List.set_cons_succ]; rfl)), ?_⟩)
            first | (refine lb_skip (by rfl) ⟨_, (by (simp only [Act.put, List.setIfInBounds_toArray, List.set_cons_zero, List.set_cons_succ]; rfl)), ?_⟩) | (refine lb_val (by kernel_rfl) ⟨_, (by (intro w' hC; clear hC; (try go_simp); (try with_reducible rfl); done)), _, (by (simp only [Act.put, List.setIfInBounds_toArray, List.set_cons_zero, List.set_cons_succ]; rfl)), ?_⟩)
            first | (refine lb_skip (by rfl) ⟨_, (by (simp only [Act.put, List.setIfInBounds_toArray, List.set_cons_zero, List.set_cons_succ]; rfl)), ?_⟩) | (refine lb_val (by kernel_rfl) ⟨_, (by (intro w' hC; clear hC; (try go_simp); (try with_reducible rfl); done)), _, (by (simp only [Act.put, List.setIfInBounds_toArray, List.set_cons_zero, List.set_cons_succ]; rfl)), ?_⟩)
            first | (refine lb_skip (by rfl) ⟨_, (by (simp only [Act.put, List.setIfInBounds_toArray, List.set_cons_zero, List.set_cons_succ]; rfl)), ?_⟩) | (refine lb_val (by kernel_rfl) ⟨_, (by (intro w' hC; clear hC; (try go_simp); (try with_reducible rfl); done)), _, (by (simp only [Act.put, List.setIfInBounds_toArray, List.set_cons_zero, List.set_cons_succ]; rfl)), ?_⟩)
            first | (refine lb_skip (by rfl) ⟨_, (by (simp only [Act.put, List.setIfInBounds_toArray, List.set_cons_zero, List.set_cons_succ]; rfl)), ?_⟩) | (refine lb_val (by kernel_rfl) ⟨_, (by (intro w' hC; (have c0 := HMC.out w' hC); clear hC; (try go_simp); (try with_reducible rfl); done)), _, (by (simp only [Act.put, List.setIfInBounds_toArray, List.set_cons_zero, List.set_cons_succ]; rfl)), ?_⟩)
            first | (refine lb_skip (by rfl) ⟨_, (by (simp only [Act.put, List.setIfInBounds_toArray, List.set_cons_zero, List.set_cons_succ]; rfl)), ?_⟩) | (refine lb_val (by kernel_rfl) ⟨_, (by (intro w' hC; clear hC; (try go_simp); (try with_reducible rfl); done)), _, (by (simp only [Act.put, List.setIfInBounds_toArray, List.set_cons_zero, List.set_cons_succ]; rfl)), ?_⟩)
            first | (refine lb_skip (by rfl) ⟨_, (by (simp only [Act.put, List.setIfInBounds_toArray, List.set_cons_zero, List.set_cons_succ]; rfl)), ?_⟩) | (refine lb_val (by kernel_rfl) ⟨_, (by (intro w' hC; (have q0 := (z6.below hC).cell 0; simp only [List.getElem?_toArray, List.getElem?_cons_zero, List.getElem?_cons_succ] at q0); clear hC; (try go_simp); (try with_reducible rfl); done)), _, (by (simp only [Act.put, List.setIfInBounds_toArray, List.set_cons_zero, List.set_cons_succ]; rfl)), ?_⟩)
            first | (refine lb_skip (by rfl) ⟨_, (by (simp only [Act.put, List.setIfInBounds_toArray, List.set_cons_zero, List.set_cons_succ]; rfl)), ?_⟩) | (refine lb_call (by kernel_rfl) (fun w' hC => HCP.out w') (by (intro w'; go_simp; done)) ⟨_, (by (simp only [Act.put, List.setIfInBounds_toArray, List.set_cons_zero, List.set_cons_succ]; rfl)), ?_⟩)
            first | (refine lb_skip (by rfl) ⟨_, (by (simp only [Act.put, List.setIfInBounds_toArray, List.set_cons_zero, List.set_cons_succ]; rfl)), ?_⟩) | (refine lb_val (by kernel_rfl) ⟨_, (by (intro w' hC; clear hC; (try go_simp); (try with_reducible rfl); done)), _, (by (simp only [Act.put, List.setIfInBounds_toArray, List.set_cons_zero, List.set_cons_succ]; rfl)), ?_⟩)
            refine lb_val (by kernel_rfl) ⟨_, (by (intro w' hC; clear hC; (try go_simp); (try with_reducible rfl); done)), _, (by (simp only [Act.put, List.setIfInBounds_toArray, List.set_cons_zero, List.set_cons_succ]; rfl)), ?_⟩
            refine .nil ?_
            intro w7 hb7
            have hK7 := HK6.out.mem hb7
            obtain ⟨A8, c8, hA8⟩ := hK7.e
            have HFL := Lib.hid (failR_any (w.heap.size + 1) _ A8 c8 r.L r.f 10 w7 hA8)
            rw [hrf, failS_now] at HFL
            have HK7 := Lib.hid hK7
            clear hud HMC HCP HGO HG1 HG2 HG3 hK7 hA8 z6
            go_wp2_with fail
            refine HFL.out.mono ?_
            rintro e w8 ⟨rfl, ht8⟩
            have hK8 := HK7.out.eye ht8
            clear HFL ht8
            go_wp2_with fail
            go_roundw
            case rel => exact ⟨j + 1 + 1, T, [], 10, _, d3, M, hin, by go_num, HGN.out, hK8, fun e => absurd e (by decide), by simp, by omega, hP⟩
            case measure => simp [intOf]; omega
          · have hcd : decide (0 ≤ cm) = false := decide_eq_false hc
            have HGN : Hid (readGo n [] L2 f2 = readGo (n - (j + 1 + 1)) (T ++ [(r.p, r.ep)]) r.L r.f) := Lib.hid (by
              rw [HGO.out, hm2, HG3.out hrf (.inr (by rw [← HCM.out]; omega)), hrf])
            refine wp_region_b 15 (by kernel_rfl) (by kernel_rfl) ?_
            simp only [List.take_succ_cons, List.take_zero, List.drop_succ_cons, List.drop_zero]
            refine lb_move _ (by kernel_rfl) rfl ⟨_, (by ((try simp [go_sem]); (try rfl); done)), _, (by (simp only [Act.put, List.setIfInBounds_toArray, List.set_cons_zero, List.set_cons_succ]; rfl)), ?_⟩
            refine lb_val (by kernel_rfl) ⟨_, (by (intro w' hC; clear hC; (try go_simp); (try with_reducible rfl); done)), _, (by (simp only [Act.put, List.setIfInBounds_toArray, List.set_cons_zero, List.set_cons_succ]; rfl)), ?_⟩
            refine lb_move _ (by kernel_rfl) rfl ⟨_, (by ((try simp [go_sem]); (try rfl); done)), _, (by (simp only [Act.put, List.setIfInBounds_toArray, List.set_cons_zero, List.set_cons_succ]; rfl)), ?_⟩
            first | (refine lb_skip (by rfl) ⟨_, (by (simp only [Act.put, List.setIfInBounds_toArray, List.set_cons_zero, List.set_cons_succ]; rfl)), ?_⟩) | (refine lb_val (by kernel_rfl) ⟨_, (by (intro w' hC; clear hC; (try go_simp); (try with_reducible rfl); done)), _, (by (simp only [Act.put, List.setIfInBounds_toArray, List.set_cons_zero, List.set_cons_succ]; rfl)), ?_⟩)
            first | (refine lb_skip (by rfl) ⟨_, (by (simp only [Act.put, List.setIfInBounds_toArray, List.set_cons_zero, List.set_cons_succ]; rfl)), ?_⟩) | (refine lb_val (by kernel_rfl) ⟨_, (by (intro w' hC; (have q1 := ((HK6.out.mem hC).k).cell 1; simp only [List.getElem?_toArray, List.getElem?_cons_zero, List.getElem?_cons_succ] at q1); clear hC; (try go_simp); (try with_reducible rfl); done)), _, (by (simp only [Act.put, List.setIfInBounds_toArray, List.set_cons_zero, List.set_cons_succ]; rfl)), ?_⟩)
            first | (refine lb_skip (by rfl) ⟨_, (by (simp only [Act.put, List.setIfInBounds_toArray, List.set_cons_zero, List.set_cons_succ]; rfl)), ?_⟩) | (refine lb_move _ (by kernel_rfl) rfl ⟨_, (by ((try simp [go_sem]); (try rfl); done)), _, (by (simp only [Act.put, List.setIfInBounds_toArray, List.set_cons_zero, List.set_cons_succ]; rfl)), ?_⟩)
            first | (refine lb_skip (by rfl) ⟨_, (by (simp only [Act.put, List.setIfInBounds_toArray, List.set_cons_zero, List.set_cons_succ]; rfl)), ?_⟩) | (refine lb_val (by kernel_rfl) ⟨_, (by (intro w' hC; clear hC; (try go_simp); (try with_reducible rfl); done)), _, (by (simp only [Act.put, List.setIfInBounds_toArray, List.set_cons_zero, List.set_cons_succ]; rfl)), ?_⟩)
            first | (refine lb_skip (by rfl) ⟨_, (by (simp only [Act.put, List.setIfInBounds_toArray, List.set_cons_zero, List.set_cons_succ]; rfl)), ?_⟩) | (refine lb_val (by kernel_rfl) ⟨_, (by (intro w' hC; clear hC; (try go_simp); (try with_reducible rfl); done)), _, (by (simp only [Act.put, List.setIfInBounds_toArray, List.set_cons_zero, List.set_cons_succ]; rfl)), ?_⟩)
            first | (refine lb_skip (by rfl) ⟨_, (by (simp only [Act.put, List.setIfInBounds_toArray, List.set_cons_zero, List.set_cons_succ]; rfl)), ?_⟩) | (refine lb_val (by kernel_rfl) ⟨_, (by (intro w' hC; clear hC; (try go_simp); (try with_reducible rfl); done)), _, (by (simp only [Act.put, List.setIfInBounds_toArray, List.set_cons_zero, List.set_cons_succ]; rfl)), ?_⟩)
            first | (refine lb_skip (by rfl) ⟨_, (by (simp only [Act.put, List.setIfInBounds_toArray, List.set_cons_zero, List.set_cons_succ]; rfl)), ?_⟩) | (refine lb_val (by kernel_rfl) ⟨_, (by (intro w' hC; (have c0 := HMC.out w' hC); clear hC; (try go_simp); (try with_reducible rfl); done)), _, (by (simp only [Act.put, List.setIfInBounds_toArray, List.set_cons_zero, List.set_cons_succ]; rfl)), ?_⟩)
            first | (refine lb_skip (by rfl) ⟨_, (by (simp only [Act.put, List.setIfInBounds_toArray, List.set_cons_zero, List.set_cons_succ]; rfl)), ?_⟩) | (refine lb_val (by kernel_rfl) ⟨_, (by (intro w' hC; clear hC; (try go_simp); (try with_reducible rfl); done)), _, (by (simp only [Act.put, List.setIfInBounds_toArray, List.set_cons_zero, List.set_cons_succ]; rfl)), ?_⟩)
            first | (refine lb_skip (by rfl) ⟨_, (by (simp only [Act.put, List.setIfInBounds_toArray, List.set_cons_zero, List.set_cons_succ]; rfl)), ?_⟩) | (refine lb_val (by kernel_rfl) ⟨_, (by (intro w' hC; (have q0 := (z6.below hC).cell 0; simp only [List.getElem?_toArray, List.getElem?_cons_zero, List.getElem?_cons_succ] at q0); clear hC; (try go_simp); (try with_reducible rfl); done)), _, (by (simp only [Act.put, List.setIfInBounds_toArray, List.set_cons_zero, List.set_cons_succ]; rfl)), ?_⟩)
            first | (refine lb_skip (by rfl) ⟨_, (by (simp only [Act.put, List.setIfInBounds_toArray, List.set_cons_zero, List.set_cons_succ]; rfl)), ?_⟩) | (refine lb_call (by kernel_rfl) (fun w' hC => HCP.out w') (by (intro w'; go_simp; done)) ⟨_, (by (simp only [Act.put, List.setIfInBounds_toArray, List.set_cons_zero, List.set_cons_succ]; rfl)), ?_⟩)
            first | (refine lb_skip (by rfl) ⟨_, (by (simp only [Act.put, List.setIfInBounds_toArray, List.set_cons_zero, List.set_cons_succ]; rfl)), ?_⟩) | (refine lb_val (by kernel_rfl) ⟨_, (by (intro w' hC; clear hC; (try go_simp); (try with_reducible rfl); done)), _, (by (simp only [Act.put, List.setIfInBounds_toArray, List.set_cons_zero, List.set_cons_succ]; rfl)), ?_⟩)
            refine lb_val (by kernel_rfl) ⟨_, (by (intro w' hC; clear hC; (try go_simp); (try with_reducible rfl); done)), _, (by (simp only [Act.put, List.setIfInBounds_toArray, List.set_cons_zero, List.set_cons_succ]; rfl)), ?_⟩
            refine .nil ?_
            intro w7 hb7
            clear hud HMC HCP HGO HG1 HG2 HG3
            have HK8 := Lib.hid (HK6.out.mem hb7)
            have z8 := z6.below hb7
            have k8 := HK8.out.k
            have q0 := z8.cell 0
            have q1 := z8.cell 1
            have q2 := z8.cell 2
            have q3 := z8.cell 3
            simp only [List.getElem?_toArray, List.getElem?_cons_zero, List.getElem?_cons_succ] at q0 q1 q2 q3
            have p0 := k8.cell 0
            have p1 := k8.cell 1
            simp only [List.getElem?_toArray, List.getElem?_cons_zero, List.getElem?_cons_succ] at p0 p1
            have fr8 := fun o => k8.frozen o
            have ho8 := HK8.out.m
            have hl8 := ho8.lt
            have HO9 := Lib.hid (ho8.below ((Below.refl _ w7).alloc (Nat.le_refl _) (.cells #[.string p, .int .u64 (r.n : Int), .int .i64 (r.k : Int), .slice A5 r.t.length c5] 28)))
            have HR9 : Hid (Rd (w7.alloc (.cells #[.string p, .int .u64 (r.n : Int), .int .i64 (r.k : Int), .slice A5 r.t.length c5] 28)) (fun _ => True) 4 (some ⟨w7.heap.size, 0, none⟩) 1 (EV.cells y)) := (Rd.lit (w := w7) (t := 28) (size := 4) (n := 1) (xs := EV.cells y) (by rw [HYE.out]; rfl) (by rw [HYE.out]; rfl) rfl).mono (fun _ _ _ => trivial)
            have HK9 := Lib.hid (HK8.out.mem ((Below.refl _ w7).alloc (Nat.le_refl _) (.cells #[.string p, .int .u64 (r.n : Int), .int .i64 (r.k : Int), .slice A5 r.t.length c5] 28)))
            have HY9 := Lib.hid ((HY6.out.below hb7).below ((Below.refl _ w7).alloc (Nat.le_refl _) (.cells #[.string p, .int .u64 (r.n : Int), .int .i64 (r.k : Int), .slice A5 r.t.length c5] 28)))
            have hs9 : w.heap.size ≤ (w7.alloc (.cells #[.string p, .int .u64 (r.n : Int), .int .i64 (r.k : Int), .slice A5 r.t.length c5] 28)).heap.size := HK9.out.low.size
            have kbl := k8.lt
            clear ho8 hb7 HK6 z6 HY6
            go_wp2_with (at_builtin; refine wpList_append_entry rfl (.tmp 55) (.tmp 57) (t := 22) rfl rfl rfl HO9.out rfl HR9.out (by omega) hs9 ?_; intro Ab db wb hob hbb hkb; have k10 : Blk wb (w.heap.size + 1 + 1) 33 #[.int .u64 S, .slice (some ⟨b, off, none⟩) M.length d3] := ((HK9.out.k).fr (⟨hbb.os, hbb.tape, hbb.output, hbb.size, fun b hb hs => hkb b hb hs⟩ : Fr (fun g => (Value.slice (some ⟨b, off, none⟩) M.length d3).ownBlock = some g) _ wb) (fun hs => (HK9.out.k.own_ne HO9.out (by decide)) hs)); have fr10 := fun o => k10.frozen o; have m10 := k10.cell 1; simp only [List.getElem?_toArray, List.getElem?_cons_zero, List.getElem?_cons_succ] at m10)
            have HK11 := Lib.hid (HK9.out.push (by rw [HYE.out]; exact HY9.out) hob hbb hkb rfl)
            generalize (wb.setCell ⟨w.heap.size + 1 + 1, 1, none⟩ (.slice Ab (M.length + 1) db)) = w11 at *
            go_roundw
            case rel => exact ⟨j + 1 + 1, T ++ [(r.p, r.ep)], r.L, r.f, Ab, db, M ++ [y], hin, by go_num, HGN.out, HK11.out, HFN.out, by omega, by rw [List.length_append]; simp only [List.length_cons, List.length_nil]; omega, HPN.out⟩
            case measure => simp [intOf]; omega
      · have hfb : (r.f != 0) = true := by simpa using hrf
        have HGN : Hid (readGo n [] L2 f2 = readGo (n - (i + 1)) T r.L r.f) := Lib.hid (by
          rw [HGO.out, hm2, HG1.out hrf])
        clear HGO HG1 HG2 HG3 hA7
        go_wp2_with fail
        go_roundw
        case rel => exact ⟨i + 1, T, r.L, r.f, A3, d3, M, hin, by go_num, HGN.out, HK6.out, fun e => absurd e hrf, by omega, by omega, hP⟩
        case measure => simp [intOf]; omega
    · have hgo2 : readGo (n - i) T L f = (T, L, f) := by
        by_cases hf0 : f = 0
        · have : n - i = 0 := by
            by_cases h : i < n
            · exact absurd ⟨h, hf0⟩ hif
            · omega
          rw [this]
          rfl
        · exact readGo_bad _ _ _ hf0
      have HRB2 : Hid (readB l = (S0, T, closeS L f)) := Lib.hid (by rw [HRB.out, hgo.out, hgo2])
      have HCL := Lib.hid (closeR_any (w.heap.size + 1) _ A4 c4 L f wr hA4)
      obtain ⟨K, hKK⟩ : ∃ K, K = closeS L f := ⟨_, rfl⟩
      rw [← hKK] at HRB2 HCL
      have HF0 : Hid (K = 0 → f = 0) := Lib.hid (fun e => by
        rw [hKK] at e
        unfold closeS at e
        split at e
        · exact e
        · rename_i h; exact Decidable.not_not.1 h)
      have HFF := Lib.hid hf.out
      have hbr := hK.low
      have hmf2 : decide ((i : Int) < (n : Int)) = false ∨ (f == 0) = false := by
        by_cases h : i < n
        · exact .inr (by simpa using fun e => hif ⟨h, e⟩)
        · exact .inl (decide_eq_false (by omega))
      have y1 := hK.k
      have x1 := hK.z
      have fr := fun o => x1.frozen o
      have p0 := y1.cell 0
      have p1 := y1.cell 1
      simp only [List.getElem?_toArray, List.getElem?_cons_zero, List.getElem?_cons_succ] at p0 p1
      have r0 := x1.cell 0
      have r1 := x1.cell 1
      simp only [List.getElem?_toArray, List.getElem?_cons_zero, List.getElem?_cons_succ] at r0 r1
      have hok : K = 0 → RefRd w l (.returned (.tuple #[.agg #[.int .u64 S, .slice A3 M.length d3], .int .i64 0])) ((wr.setCell ⟨w.heap.size, 0, none⟩ (.int .u64 S)).setCell ⟨w.heap.size, 1, none⟩ (.slice A3 M.length d3)) := fun hK0 => by
        obtain ⟨e1, _⟩ := HFF.out (HF0.out hK0)
        have k2 : Fr (fun x => x = w.heap.size) wr ((wr.setCell ⟨w.heap.size, 0, none⟩ (.int .u64 S)).setCell ⟨w.heap.size, 1, none⟩ (.slice A3 M.length d3)) := ((Fr.refl (fun x => x = w.heap.size) wr).setAt (w.heap.size) _ rfl _).setAt (w.heap.size) _ rfl _
        unfold RefRd
        rw [HRB2.out]
        dsimp only
        refine .inl ⟨hK0, A3, d3, M, by rw [HSS.out], ⟨(Rd.of_own (own_fr hK.m k2 (fun g hg e => (x1.own_ne hK.m (by decide)) (by rw [hg, e]))) (fun _ _ _ => trivial)), fun x hx => ((hK.ok x hx).fr k2 (fun b hb hz e => by have : b < w.heap.size := hz; omega)).mono (fun _ _ _ => trivial), by omega⟩, e1⟩
      have hbad : K ≠ 0 → ∀ W, RefRd w l (.returned (.tuple #[.agg #[.int .u64 0, .slice none 0 0], .int .i64 K])) W := fun hK0 W => by
        unfold RefRd
        rw [HRB2.out]
        exact .inr ⟨hK0, rfl⟩
      have HOKK := Lib.hid hok
      have HBAD := Lib.hid hbad
      clear hgo hgo2 hK hf hKK hA4 HRB hok hbad hP hif
      by_cases hm0 : i < n
      · have hmd : decide ((i : Int) < (n : Int)) = true := decide_eq_true (by omega)
        have hfb : (f == 0) = false := by
          rcases hmf2 with h | h
          · rw [hmd] at h; cases h
          · exact h
        clear hmf2
        go_wp2_with fail
        refine HCL.out.mono ?_
        rintro e wf ⟨rfl, rfl⟩
        by_cases hK0 : K = 0
        · have hkb : (K != 0) = false := by simpa using hK0
          have HF9 := Lib.hid (HOKK.out hK0)
          have kR : Fr (fun x => x = w.heap.size) wr ((wr.setCell ⟨w.heap.size, 0, none⟩ (.int .u64 S)).setCell ⟨w.heap.size, 1, none⟩ (.slice A3 M.length d3)) := (((Fr.refl (fun x => x = w.heap.size) wr).setAt (w.heap.size) _ rfl _).setAt (w.heap.size) _ rfl _)
          have xR := ((x1.set_ 0 (.int .u64 S)).set_ 1 (.slice A3 M.length d3))
          simp only [List.setIfInBounds_toArray, List.set_cons_zero, List.set_cons_succ] at xR
          have hwR : Below w.heap.size w ((wr.setCell ⟨w.heap.size, 0, none⟩ (.int .u64 S)).setCell ⟨w.heap.size, 1, none⟩ (.slice A3 M.length d3)) := hbr.trans (kR.below (B := w.heap.size) hbr.size (fun k hk e => by omega))
          have t0 := xR.cell 0
          have t1 := xR.cell 1
          simp only [List.getElem?_toArray, List.getElem?_cons_zero, List.getElem?_cons_succ] at t0 t1
          clear HOKK HBAD xR
          go_wp2_with fail
          refine bodyPost_ret (v := .tuple #[.agg #[.int .u64 S, .slice A3 M.length d3], .int .i64 0]) (by simp [results, Try.results42, go_sem, t0, t1]) rfl ?_
          exact ⟨HF9.out, hwR⟩
        · have hkb : (K != 0) = true := by simpa using hK0
          have HF9 := Lib.hid (HBAD.out hK0)
          have kR : Fr (fun x => x = w.heap.size) wr ((wr.setCell ⟨w.heap.size, 0, none⟩ (.int .u64 0)).setCell ⟨w.heap.size, 1, none⟩ (.slice none 0 0)) := (((Fr.refl (fun x => x = w.heap.size) wr).setAt (w.heap.size) _ rfl _).setAt (w.heap.size) _ rfl _)
          have xR := ((x1.set_ 0 (.int .u64 0)).set_ 1 (.slice none 0 0))
          simp only [List.setIfInBounds_toArray, List.set_cons_zero, List.set_cons_succ] at xR
          have hwR : Below w.heap.size w ((wr.setCell ⟨w.heap.size, 0, none⟩ (.int .u64 0)).setCell ⟨w.heap.size, 1, none⟩ (.slice none 0 0)) := hbr.trans (kR.below (B := w.heap.size) hbr.size (fun k hk e => by omega))
          have t0 := xR.cell 0
          have t1 := xR.cell 1
          simp only [List.getElem?_toArray, List.getElem?_cons_zero, List.getElem?_cons_succ] at t0 t1
          clear HOKK HBAD xR
          go_wp2_with fail
          refine bodyPost_ret (v := .tuple #[.agg #[.int .u64 0, .slice none 0 0], .int .i64 K]) (by simp [results, Try.results42, go_sem, t0, t1]) rfl ?_
          exact ⟨HF9.out _, hwR⟩
      · have hmd : decide ((i : Int) < (n : Int)) = false := decide_eq_false (by omega)
        clear hmf2
        go_wp2_with fail
        refine HCL.out.mono ?_
        rintro e wf ⟨rfl, rfl⟩
        by_cases hK0 : K = 0
        · have hkb : (K != 0) = false := by simpa using hK0
          have HF9 := Lib.hid (HOKK.out hK0)
          have kR : Fr (fun x => x = w.heap.size) wr ((wr.setCell ⟨w.heap.size, 0, none⟩ (.int .u64 S)).setCell ⟨w.heap.size, 1, none⟩ (.slice A3 M.length d3)) := (((Fr.refl (fun x => x = w.heap.size) wr).setAt (w.heap.size) _ rfl _).setAt (w.heap.size) _ rfl _)
          have xR := ((x1.set_ 0 (.int .u64 S)).set_ 1 (.slice A3 M.length d3))
          simp only [List.setIfInBounds_toArray, List.set_cons_zero, List.set_cons_succ] at xR
          have hwR : Below w.heap.size w ((wr.setCell ⟨w.heap.size, 0, none⟩ (.int .u64 S)).setCell ⟨w.heap.size, 1, none⟩ (.slice A3 M.length d3)) := hbr.trans (kR.below (B := w.heap.size) hbr.size (fun k hk e => by omega))
          have t0 := xR.cell 0
          have t1 := xR.cell 1
          simp only [List.getElem?_toArray, List.getElem?_cons_zero, List.getElem?_cons_succ] at t0 t1
          clear HOKK HBAD xR
          go_wp2_with fail
          refine bodyPost_ret (v := .tuple #[.agg #[.int .u64 S, .slice A3 M.length d3], .int .i64 0]) (by simp [results, Try.results42, go_sem, t0, t1]) rfl ?_
          exact ⟨HF9.out, hwR⟩
        · have hkb : (K != 0) = true := by simpa using hK0
          have HF9 := Lib.hid (HBAD.out hK0)
          have kR : Fr (fun x => x = w.heap.size) wr ((wr.setCell ⟨w.heap.size, 0, none⟩ (.int .u64 0)).setCell ⟨w.heap.size, 1, none⟩ (.slice none 0 0)) := (((Fr.refl (fun x => x = w.heap.size) wr).setAt (w.heap.size) _ rfl _).setAt (w.heap.size) _ rfl _)
          have xR := ((x1.set_ 0 (.int .u64 0)).set_ 1 (.slice none 0 0))
          simp only [List.setIfInBounds_toArray, List.set_cons_zero, List.set_cons_succ] at xR
          have hwR : Below w.heap.size w ((wr.setCell ⟨w.heap.size, 0, none⟩ (.int .u64 0)).setCell ⟨w.heap.size, 1, none⟩ (.slice none 0 0)) := hbr.trans (kR.below (B := w.heap.size) hbr.size (fun k hk e => by omega))
          have t0 := xR.cell 0
          have t1 := xR.cell 1
          simp only [List.getElem?_toArray, List.getElem?_cons_zero, List.getElem?_cons_succ] at t0 t1
          clear HOKK HBAD xR
          go_wp2_with fail
          refine bodyPost_ret (v := .tuple #[.agg #[.int .u64 0, .slice none 0 0], .int .i64 K]) (by simp [results, Try.results42, go_sem, t0, t1]) rfl ?_
          exact ⟨HF9.out _, hwR⟩

end Go.Proofs.Ytdnljmncdbcgeaa
