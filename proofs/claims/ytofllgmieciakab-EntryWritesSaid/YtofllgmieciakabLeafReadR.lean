/- tenderref07.Read, Bytes. -/
import Derived.Test.YtofllgmieciakabLeafRead
namespace Go.Proofs.Ytofllgmieciakab
open Go.RowKit

set_option maxHeartbeats 1000000 in
theorem leafReadR_any (eb : Nat) (Z : Nat → Prop) (A : Option Addr) (c : Nat) (l : List UInt8) (f : Int) (w : World) (h : EyeAt w 41 eb Z A c l f) (hz : ¬ Z eb) :
    Calls Try.prog 22 #[.pointer (some ⟨eb, 0, none⟩)] w fun e w' => ∃ (A' : Option Addr) (n' c' : Nat), e = .returned (.agg #[.int .i64 ((leafS l f).1 : Int), .slice A' n' c']) ∧ Hid (n' = (leafS l f).2.1.length) ∧ Rd w' Z 1 A' n' ((leafS l f).2.1.map bv) ∧ n' ≤ c' ∧ c' ≤ maxLen ∧ EyeTo w 41 eb Z (leafS l f).2.2.1 (leafS l f).2.2.2 w' := by
  have hzz : ∀ x, (fun b => Z b ∧ b < w.heap.size) x → Z x := fun x h => h.1
  have hzw : ∀ x, (fun b => Z b ∧ b < w.heap.size) x → x < w.heap.size := fun x h => h.2
  have hz : ¬ (fun b => Z b ∧ b < w.heap.size) eb := fun h => hz h.1
  replace h := h.mono (Z' := fun b => Z b ∧ b < w.heap.size) (fun b h1 h2 => ⟨h2, h1⟩)
  suffices hs : Calls Try.prog 22 #[.pointer (some ⟨eb, 0, none⟩)] w fun e w' => ∃ (A' : Option Addr) (n' c' : Nat), e = .returned (.agg #[.int .i64 ((leafS l f).1 : Int), .slice A' n' c']) ∧ Hid (n' = (leafS l f).2.1.length) ∧ Rd w' (fun b => Z b ∧ b < w.heap.size) 1 A' n' ((leafS l f).2.1.map bv) ∧ n' ≤ c' ∧ c' ≤ maxLen ∧ EyeTo w 41 eb (fun b => Z b ∧ b < w.heap.size) (leafS l f).2.2.1 (leafS l f).2.2.2 w' by
    refine hs.mono ?_
    rintro e w' ⟨A', n', c', h1, h2, h3, h4, h5, h6⟩
    exact ⟨A', n', c', h1, h2, h3.mono (fun b _ hb => hzz b hb), h4, h5, h6.mono hzz⟩
  clear hzz
  generalize hZ' : (fun b => Z b ∧ b < w.heap.size) = Y at *
  clear hZ'
  have hn := fun w (h : EyeAt w 41 eb Y A c l f) => intR_any eb Y A c l f 2 w h hz (by omega)
  have HN := Lib.hid hn
  clear hn
  unfold leafS
  generalize intS l f 2 = r at *
  obtain ⟨n, l1, f1⟩ := r
  dsimp only at *
  have hlt := h.1.lt
  by_cases hn1 : n = 1
  · rw [if_pos hn1]
    subst hn1
    have htx := fun w A2 c2 h => textR_any eb Y A2 c2 l1 f1 4096 w h hz (by omega)
    have HTX := Lib.hid htx
    clear htx
    generalize textS l1 f1 4096 = r at *
    obtain ⟨t, l2, f2⟩ := r
    dsimp only at *
    by_cases hf : f2 = 0
    · subst hf
      rw [if_neg (by simp)]
      have bR0 := (Blk.new w 24 #[.int .i64 0, .slice none 0 0]).alloc (.cells #[.int .i64 0, .slice none 0 0] 24)
      have bL0 := Blk.new (w.alloc (.cells #[.int .i64 0, .slice none 0 0] 24)) 24 #[.int .i64 0, .slice none 0 0]
      have hz0 : (w.alloc (.cells #[.int .i64 0, .slice none 0 0] 24)).heap.size = w.heap.size + 1 := by simp
      rw [hz0] at bL0
      have hlow0 : Below w.heap.size w ((w.alloc (.cells #[.int .i64 0, .slice none 0 0] 24)).alloc (.cells #[.int .i64 0, .slice none 0 0] 24)) := (by repeat (first | exact Below.refl _ _ | refine Below.alloc ?_ (by simp) _ | refine Below.setCell ?_ (by simp) _ | refine Below.drew ?_))
      go_enter Try.func22, Try.ntmps22
      go_wp2_with fail
      generalize (w.alloc (.cells #[.int .i64 0, .slice none 0 0] 24)).alloc (.cells #[.int .i64 0, .slice none 0 0] 24) = W0 at *
      refine (HN.out _ (h.below hlow0)).mono ?_
      rintro e w1 ⟨rfl, h1⟩
      dsimp only at h1
      have hs1 := h1.fr.size
      have hsR := bR0.lt
      have hsL := bL0.lt
      have bR1 := bR0.fr h1.fr (by omega)
      have bL1 := bL0.fr h1.fr (by omega)
      have ht1 := EyeTo.after hlow0 h1
      have bL2 : Blk (w1.setCell ⟨w.heap.size + 1, 0, none⟩ (.int .i64 1)) (w.heap.size + 1) 24 #[.int .i64 1, .slice none 0 0] := by simpa using bL1.set_ 0 (.int .i64 1)
      have bR2 := bR1.far (p := ⟨w.heap.size + 1, 0, none⟩) (by simp) (.int .i64 1)
      have hf2 : Fr (fun x => x = w.heap.size + 1) w1 (w1.setCell ⟨w.heap.size + 1, 0, none⟩ (.int .i64 1)) := (Fr.refl (fun x => x = w.heap.size + 1) w1).setAt (w.heap.size + 1) 0 rfl _
      have ht2 := ht1.side hf2 (by omega) (by omega) (fun x hx e => by have := hzw x hx; omega)
      have hs2 := hf2.size
      have q0 := bL1.cell 0
      have q1 := bL1.frozen 0
      have r0 : (w1.setCell ⟨w.heap.size + 1, 0, none⟩ (.int .i64 1)).cell? ⟨w.heap.size + 1, 0, none⟩ = some (.int .i64 1) := bL2.cell 0
      obtain ⟨A2, c2, ha2⟩ := ht2.at_
      clear h1 ht1 hf2 bR0 bL0 hlow0 HN
      go_wp2_with fail
      clear r0 q0 q1 bR1 bL1
      generalize w1.setCell ⟨w.heap.size + 1, 0, none⟩ (.int .i64 1) = W1 at *
      refine (HTX.out W1 A2 c2 ha2).mono ?_
      rintro e w3 ⟨A4, n4, c4, rfl, hn4, hr4, hnc4, hcm4, ht4⟩
      have ht3 := ht2.trans ht4
      have bR3 := bR2.fr ht4.fr (by omega)
      have bL3 := bL2.fr ht4.fr (by omega)
      have bLW : Blk (w3.setCell ⟨w.heap.size + 1, 1, none⟩ (.slice A4 n4 c4)) (w.heap.size + 1) 24 #[.int .i64 1, .slice A4 n4 c4] := by simpa using bL3.set_ 1 (.slice A4 n4 c4)
      have bRW := bR3.far (p := ⟨w.heap.size + 1, 1, none⟩) (by simp) (.slice A4 n4 c4)
      have hfW : Fr (fun x => x = w.heap.size + 1) w3 (w3.setCell ⟨w.heap.size + 1, 1, none⟩ (.slice A4 n4 c4)) := (Fr.refl (fun x => x = w.heap.size + 1) w3).setAt (w.heap.size + 1) 1 rfl _
      have hsW := bL2.lt
      have ht := ht3.side hfW (by omega) (by omega) (fun x hx e => by have := hzw x hx; omega)
      have hr := hr4.fr hfW (fun x _ hx e => by have := hzw x hx; omega)
      have q0 := bL3.cell 1
      have q1 := bL3.frozen 1
      obtain ⟨A3, c3, ha3⟩ := ht.at_
      have u1 := ha3.c1
      have d0 : (w3.setCell ⟨w.heap.size + 1, 1, none⟩ (.slice A4 n4 c4)).cell? ⟨w.heap.size + 1, 0, none⟩ = some (.int .i64 1) := bLW.cell 0
      have d1 : (w3.setCell ⟨w.heap.size + 1, 1, none⟩ (.slice A4 n4 c4)).cell? ⟨w.heap.size + 1, 1, none⟩ = some (.slice A4 n4 c4) := bLW.cell 1
      have e0 : (w3.setCell ⟨w.heap.size + 1, 1, none⟩ (.slice A4 n4 c4)).cell? ⟨w.heap.size, 0, none⟩ = some (.int .i64 0) := bRW.cell 0
      have e1 : (w3.setCell ⟨w.heap.size + 1, 1, none⟩ (.slice A4 n4 c4)).cell? ⟨w.heap.size, 1, none⟩ = some (.slice none 0 0) := bRW.cell 1
      have g0 := bRW.frozen 0
      have g1 := bRW.frozen 1
      go_wp2_with fail
      clear q0 q1 bL3 bR3 u1 d0 d1 e0 e1 g0 g1
      generalize w3.setCell ⟨w.heap.size + 1, 1, none⟩ (.slice A4 n4 c4) = W at *
      obtain ⟨bxV, hfV⟩ := Blk.two (x' := .int .i64 1) (y' := .slice A4 n4 c4) bRW
      have htV := ht.side hfV (Nat.le_refl _) (by omega) (fun x hx e => by have := hzw x hx; omega)
      have hrV := hr.fr hfV (fun x _ hx e => by have := hzw x hx; omega)
      generalize (W.setCell ⟨w.heap.size, 0, none⟩ (.int .i64 1)).setCell ⟨w.heap.size, 1, none⟩ (.slice A4 n4 c4) = V at *
      have x0 : V.cell? ⟨w.heap.size, 0, none⟩ = some (.int .i64 1) := bxV.cell 0
      have x1 : V.cell? ⟨w.heap.size, 1, none⟩ = some (.slice A4 n4 c4) := bxV.cell 1
      refine bodyPost_ret (v := .agg #[.int .i64 1, .slice A4 n4 c4]) (by simp [results, Try.results22, go_sem, x0, x1]) rfl ?_
      exact ⟨A4, n4, c4, rfl, hn4, hrV, hnc4, hcm4, htV⟩
    · rw [if_pos hf]
      have hfb : (f2 == 0) = false := by simpa using hf
      have bR0 := (Blk.new w 24 #[.int .i64 0, .slice none 0 0]).alloc (.cells #[.int .i64 0, .slice none 0 0] 24)
      have bL0 := Blk.new (w.alloc (.cells #[.int .i64 0, .slice none 0 0] 24)) 24 #[.int .i64 0, .slice none 0 0]
      have hz0 : (w.alloc (.cells #[.int .i64 0, .slice none 0 0] 24)).heap.size = w.heap.size + 1 := by simp
      rw [hz0] at bL0
      have hlow0 : Below w.heap.size w ((w.alloc (.cells #[.int .i64 0, .slice none 0 0] 24)).alloc (.cells #[.int .i64 0, .slice none 0 0] 24)) := (by repeat (first | exact Below.refl _ _ | refine Below.alloc ?_ (by simp) _ | refine Below.setCell ?_ (by simp) _ | refine Below.drew ?_))
      go_enter Try.func22, Try.ntmps22
      go_wp2_with fail
      generalize (w.alloc (.cells #[.int .i64 0, .slice none 0 0] 24)).alloc (.cells #[.int .i64 0, .slice none 0 0] 24) = W0 at *
      refine (HN.out _ (h.below hlow0)).mono ?_
      rintro e w1 ⟨rfl, h1⟩
      dsimp only at h1
      have hs1 := h1.fr.size
      have hsR := bR0.lt
      have hsL := bL0.lt
      have bR1 := bR0.fr h1.fr (by omega)
      have bL1 := bL0.fr h1.fr (by omega)
      have ht1 := EyeTo.after hlow0 h1
      have bL2 : Blk (w1.setCell ⟨w.heap.size + 1, 0, none⟩ (.int .i64 1)) (w.heap.size + 1) 24 #[.int .i64 1, .slice none 0 0] := by simpa using bL1.set_ 0 (.int .i64 1)
      have bR2 := bR1.far (p := ⟨w.heap.size + 1, 0, none⟩) (by simp) (.int .i64 1)
      have hf2 : Fr (fun x => x = w.heap.size + 1) w1 (w1.setCell ⟨w.heap.size + 1, 0, none⟩ (.int .i64 1)) := (Fr.refl (fun x => x = w.heap.size + 1) w1).setAt (w.heap.size + 1) 0 rfl _
      have ht2 := ht1.side hf2 (by omega) (by omega) (fun x hx e => by have := hzw x hx; omega)
      have hs2 := hf2.size
      have q0 := bL1.cell 0
      have q1 := bL1.frozen 0
      have r0 : (w1.setCell ⟨w.heap.size + 1, 0, none⟩ (.int .i64 1)).cell? ⟨w.heap.size + 1, 0, none⟩ = some (.int .i64 1) := bL2.cell 0
      obtain ⟨A2, c2, ha2⟩ := ht2.at_
      clear h1 ht1 hf2 bR0 bL0 hlow0 HN
      go_wp2_with fail
      clear r0 q0 q1 bR1 bL1
      generalize w1.setCell ⟨w.heap.size + 1, 0, none⟩ (.int .i64 1) = W1 at *
      refine (HTX.out W1 A2 c2 ha2).mono ?_
      rintro e w3 ⟨A4, n4, c4, rfl, hn4, hr4, hnc4, hcm4, ht4⟩
      have ht3 := ht2.trans ht4
      have bR3 := bR2.fr ht4.fr (by omega)
      have bL3 := bL2.fr ht4.fr (by omega)
      have bLW : Blk (w3.setCell ⟨w.heap.size + 1, 1, none⟩ (.slice A4 n4 c4)) (w.heap.size + 1) 24 #[.int .i64 1, .slice A4 n4 c4] := by simpa using bL3.set_ 1 (.slice A4 n4 c4)
      have bRW := bR3.far (p := ⟨w.heap.size + 1, 1, none⟩) (by simp) (.slice A4 n4 c4)
      have hfW : Fr (fun x => x = w.heap.size + 1) w3 (w3.setCell ⟨w.heap.size + 1, 1, none⟩ (.slice A4 n4 c4)) := (Fr.refl (fun x => x = w.heap.size + 1) w3).setAt (w.heap.size + 1) 1 rfl _
      have hsW := bL2.lt
      have ht := ht3.side hfW (by omega) (by omega) (fun x hx e => by have := hzw x hx; omega)
      have hr := hr4.fr hfW (fun x _ hx e => by have := hzw x hx; omega)
      have q0 := bL3.cell 1
      have q1 := bL3.frozen 1
      obtain ⟨A3, c3, ha3⟩ := ht.at_
      have u1 := ha3.c1
      have d0 : (w3.setCell ⟨w.heap.size + 1, 1, none⟩ (.slice A4 n4 c4)).cell? ⟨w.heap.size + 1, 0, none⟩ = some (.int .i64 1) := bLW.cell 0
      have d1 : (w3.setCell ⟨w.heap.size + 1, 1, none⟩ (.slice A4 n4 c4)).cell? ⟨w.heap.size + 1, 1, none⟩ = some (.slice A4 n4 c4) := bLW.cell 1
      have e0 : (w3.setCell ⟨w.heap.size + 1, 1, none⟩ (.slice A4 n4 c4)).cell? ⟨w.heap.size, 0, none⟩ = some (.int .i64 0) := bRW.cell 0
      have e1 : (w3.setCell ⟨w.heap.size + 1, 1, none⟩ (.slice A4 n4 c4)).cell? ⟨w.heap.size, 1, none⟩ = some (.slice none 0 0) := bRW.cell 1
      have g0 := bRW.frozen 0
      have g1 := bRW.frozen 1
      go_wp2_with fail
      clear q0 q1 bL3 bR3 u1 d0 d1 e0 e1 g0 g1
      generalize w3.setCell ⟨w.heap.size + 1, 1, none⟩ (.slice A4 n4 c4) = W at *
      obtain ⟨bxV, hfV⟩ := Blk.two (x' := .int .i64 0) (y' := .slice none 0 0) bRW
      have htV := ht.side hfV (Nat.le_refl _) (by omega) (fun x hx e => by have := hzw x hx; omega)
      generalize (W.setCell ⟨w.heap.size, 0, none⟩ (.int .i64 0)).setCell ⟨w.heap.size, 1, none⟩ (.slice none 0 0) = V at *
      have x0 : V.cell? ⟨w.heap.size, 0, none⟩ = some (.int .i64 0) := bxV.cell 0
      have x1 : V.cell? ⟨w.heap.size, 1, none⟩ = some (.slice none 0 0) := bxV.cell 1
      refine bodyPost_ret (v := .agg #[.int .i64 0, .slice none 0 0]) (by simp [results, Try.results22, go_sem, x0, x1]) rfl ?_
      exact ⟨none, 0, 0, rfl, rfl, Rd.nil, Nat.le_refl _, by simp [maxLen], htV⟩
  · rw [if_neg hn1]
    have hn1b : ((n : Int) == 1) = false := by rw [beq_eq_false_iff_ne]; omega
    dsimp only
    by_cases hf : f1 = 0
    · subst hf
      rw [if_neg (by simp)]
      have bR0 := (Blk.new w 24 #[.int .i64 0, .slice none 0 0]).alloc (.cells #[.int .i64 0, .slice none 0 0] 24)
      have bL0 := Blk.new (w.alloc (.cells #[.int .i64 0, .slice none 0 0] 24)) 24 #[.int .i64 0, .slice none 0 0]
      have hz0 : (w.alloc (.cells #[.int .i64 0, .slice none 0 0] 24)).heap.size = w.heap.size + 1 := by simp
      rw [hz0] at bL0
      have hlow0 : Below w.heap.size w ((w.alloc (.cells #[.int .i64 0, .slice none 0 0] 24)).alloc (.cells #[.int .i64 0, .slice none 0 0] 24)) := (by repeat (first | exact Below.refl _ _ | refine Below.alloc ?_ (by simp) _ | refine Below.setCell ?_ (by simp) _ | refine Below.drew ?_))
      go_enter Try.func22, Try.ntmps22
      go_wp2_with fail
      generalize (w.alloc (.cells #[.int .i64 0, .slice none 0 0] 24)).alloc (.cells #[.int .i64 0, .slice none 0 0] 24) = W0 at *
      refine (HN.out _ (h.below hlow0)).mono ?_
      rintro e w1 ⟨rfl, h1⟩
      dsimp only at h1
      have hs1 := h1.fr.size
      have hsR := bR0.lt
      have hsL := bL0.lt
      have bR1 := bR0.fr h1.fr (by omega)
      have bL1 := bL0.fr h1.fr (by omega)
      have ht1 := EyeTo.after hlow0 h1
      have bL2 : Blk (w1.setCell ⟨w.heap.size + 1, 0, none⟩ (.int .i64 n)) (w.heap.size + 1) 24 #[.int .i64 n, .slice none 0 0] := by simpa using bL1.set_ 0 (.int .i64 n)
      have bR2 := bR1.far (p := ⟨w.heap.size + 1, 0, none⟩) (by simp) (.int .i64 n)
      have hf2 : Fr (fun x => x = w.heap.size + 1) w1 (w1.setCell ⟨w.heap.size + 1, 0, none⟩ (.int .i64 n)) := (Fr.refl (fun x => x = w.heap.size + 1) w1).setAt (w.heap.size + 1) 0 rfl _
      have ht2 := ht1.side hf2 (by omega) (by omega) (fun x hx e => by have := hzw x hx; omega)
      have hs2 := hf2.size
      have q0 := bL1.cell 0
      have q1 := bL1.frozen 0
      have r0 : (w1.setCell ⟨w.heap.size + 1, 0, none⟩ (.int .i64 n)).cell? ⟨w.heap.size + 1, 0, none⟩ = some (.int .i64 n) := bL2.cell 0
      obtain ⟨A2, c2, ha2⟩ := ht2.at_
      have u1 := ha2.c1
      have d0 : (w1.setCell ⟨w.heap.size + 1, 0, none⟩ (.int .i64 n)).cell? ⟨w.heap.size + 1, 0, none⟩ = some (.int .i64 n) := bL2.cell 0
      have d1 : (w1.setCell ⟨w.heap.size + 1, 0, none⟩ (.int .i64 n)).cell? ⟨w.heap.size + 1, 1, none⟩ = some (.slice none 0 0) := bL2.cell 1
      have e0 : (w1.setCell ⟨w.heap.size + 1, 0, none⟩ (.int .i64 n)).cell? ⟨w.heap.size, 0, none⟩ = some (.int .i64 0) := bR2.cell 0
      have e1 : (w1.setCell ⟨w.heap.size + 1, 0, none⟩ (.int .i64 n)).cell? ⟨w.heap.size, 1, none⟩ = some (.slice none 0 0) := bR2.cell 1
      have g0 := bR2.frozen 0
      have g1 := bR2.frozen 1
      clear h1 ht1 hf2 bR0 bL0 hlow0 HN
      go_wp2_with fail
      clear r0 q0 q1 bR1 bL1 u1 d0 d1 e0 e1 g0 g1
      generalize w1.setCell ⟨w.heap.size + 1, 0, none⟩ (.int .i64 n) = W at *
      have bLW := bL2
      have bRW := bR2
      have ht := ht2
      obtain ⟨bxV, hfV⟩ := Blk.two (x' := .int .i64 n) (y' := .slice none 0 0) bRW
      have htV := ht.side hfV (Nat.le_refl _) (by omega) (fun x hx e => by have := hzw x hx; omega)
      generalize (W.setCell ⟨w.heap.size, 0, none⟩ (.int .i64 n)).setCell ⟨w.heap.size, 1, none⟩ (.slice none 0 0) = V at *
      have x0 : V.cell? ⟨w.heap.size, 0, none⟩ = some (.int .i64 n) := bxV.cell 0
      have x1 : V.cell? ⟨w.heap.size, 1, none⟩ = some (.slice none 0 0) := bxV.cell 1
      refine bodyPost_ret (v := .agg #[.int .i64 n, .slice none 0 0]) (by simp [results, Try.results22, go_sem, x0, x1]) rfl ?_
      exact ⟨none, 0, 0, rfl, rfl, Rd.nil, Nat.le_refl _, by simp [maxLen], htV⟩
    · rw [if_pos hf]
      have hfb : (f1 == 0) = false := by simpa using hf
      have bR0 := (Blk.new w 24 #[.int .i64 0, .slice none 0 0]).alloc (.cells #[.int .i64 0, .slice none 0 0] 24)
      have bL0 := Blk.new (w.alloc (.cells #[.int .i64 0, .slice none 0 0] 24)) 24 #[.int .i64 0, .slice none 0 0]
      have hz0 : (w.alloc (.cells #[.int .i64 0, .slice none 0 0] 24)).heap.size = w.heap.size + 1 := by simp
      rw [hz0] at bL0
      have hlow0 : Below w.heap.size w ((w.alloc (.cells #[.int .i64 0, .slice none 0 0] 24)).alloc (.cells #[.int .i64 0, .slice none 0 0] 24)) := (by repeat (first | exact Below.refl _ _ | refine Below.alloc ?_ (by simp) _ | refine Below.setCell ?_ (by simp) _ | refine Below.drew ?_))
      go_enter Try.func22, Try.ntmps22
      go_wp2_with fail
      generalize (w.alloc (.cells #[.int .i64 0, .slice none 0 0] 24)).alloc (.cells #[.int .i64 0, .slice none 0 0] 24) = W0 at *
      refine (HN.out _ (h.below hlow0)).mono ?_
      rintro e w1 ⟨rfl, h1⟩
      dsimp only at h1
      have hs1 := h1.fr.size
      have hsR := bR0.lt
      have hsL := bL0.lt
      have bR1 := bR0.fr h1.fr (by omega)
      have bL1 := bL0.fr h1.fr (by omega)
      have ht1 := EyeTo.after hlow0 h1
      have bL2 : Blk (w1.setCell ⟨w.heap.size + 1, 0, none⟩ (.int .i64 n)) (w.heap.size + 1) 24 #[.int .i64 n, .slice none 0 0] := by simpa using bL1.set_ 0 (.int .i64 n)
      have bR2 := bR1.far (p := ⟨w.heap.size + 1, 0, none⟩) (by simp) (.int .i64 n)
      have hf2 : Fr (fun x => x = w.heap.size + 1) w1 (w1.setCell ⟨w.heap.size + 1, 0, none⟩ (.int .i64 n)) := (Fr.refl (fun x => x = w.heap.size + 1) w1).setAt (w.heap.size + 1) 0 rfl _
      have ht2 := ht1.side hf2 (by omega) (by omega) (fun x hx e => by have := hzw x hx; omega)
      have hs2 := hf2.size
      have q0 := bL1.cell 0
      have q1 := bL1.frozen 0
      have r0 : (w1.setCell ⟨w.heap.size + 1, 0, none⟩ (.int .i64 n)).cell? ⟨w.heap.size + 1, 0, none⟩ = some (.int .i64 n) := bL2.cell 0
      obtain ⟨A2, c2, ha2⟩ := ht2.at_
      have u1 := ha2.c1
      have d0 : (w1.setCell ⟨w.heap.size + 1, 0, none⟩ (.int .i64 n)).cell? ⟨w.heap.size + 1, 0, none⟩ = some (.int .i64 n) := bL2.cell 0
      have d1 : (w1.setCell ⟨w.heap.size + 1, 0, none⟩ (.int .i64 n)).cell? ⟨w.heap.size + 1, 1, none⟩ = some (.slice none 0 0) := bL2.cell 1
      have e0 : (w1.setCell ⟨w.heap.size + 1, 0, none⟩ (.int .i64 n)).cell? ⟨w.heap.size, 0, none⟩ = some (.int .i64 0) := bR2.cell 0
      have e1 : (w1.setCell ⟨w.heap.size + 1, 0, none⟩ (.int .i64 n)).cell? ⟨w.heap.size, 1, none⟩ = some (.slice none 0 0) := bR2.cell 1
      have g0 := bR2.frozen 0
      have g1 := bR2.frozen 1
      clear h1 ht1 hf2 bR0 bL0 hlow0 HN
      go_wp2_with fail
      clear r0 q0 q1 bR1 bL1 u1 d0 d1 e0 e1 g0 g1
      generalize w1.setCell ⟨w.heap.size + 1, 0, none⟩ (.int .i64 n) = W at *
      have bLW := bL2
      have bRW := bR2
      have ht := ht2
      obtain ⟨bxV, hfV⟩ := Blk.two (x' := .int .i64 0) (y' := .slice none 0 0) bRW
      have htV := ht.side hfV (Nat.le_refl _) (by omega) (fun x hx e => by have := hzw x hx; omega)
      generalize (W.setCell ⟨w.heap.size, 0, none⟩ (.int .i64 0)).setCell ⟨w.heap.size, 1, none⟩ (.slice none 0 0) = V at *
      have x0 : V.cell? ⟨w.heap.size, 0, none⟩ = some (.int .i64 0) := bxV.cell 0
      have x1 : V.cell? ⟨w.heap.size, 1, none⟩ = some (.slice none 0 0) := bxV.cell 1
      refine bodyPost_ret (v := .agg #[.int .i64 0, .slice none 0 0]) (by simp [results, Try.results22, go_sem, x0, x1]) rfl ?_
      exact ⟨none, 0, 0, rfl, rfl, Rd.nil, Nat.le_refl _, by simp [maxLen], htV⟩
end Go.Proofs.Ytofllgmieciakab
