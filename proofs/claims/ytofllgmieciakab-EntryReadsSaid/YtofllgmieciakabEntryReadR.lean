/- tenderref21.Read. -/
import Derived.Test.YtofllgmieciakabEntryRead
import Derived.Test.YtofllgmieciakabLeafReadR
namespace Go.Proofs.Ytofllgmieciakab
open Go.RowKit

set_option maxRecDepth 100000 in
set_option maxHeartbeats 2000000 in
theorem refEntryRead_any (eb : Nat) (Z : Nat → Prop) (A : Option Addr) (c : Nat) (l : List UInt8) (f : Int) (w : World) (h : EyeAt w 41 eb Z A c l f) (hz : ¬ Z eb) (hl : l.length ≤ 140737488355328) :
    Calls Try.prog 40 #[.pointer (some ⟨eb, 0, none⟩)] w fun e w' => ∃ (p : ByteArray) (A' : Option Addr) (n' c' : Nat), e = .returned (.agg #[.string p, .int .u64 ((entS l f).n : Int), .int .i64 ((entS l f).k : Int), .slice A' n' c']) ∧ Hid (tl p = (entS l f).p) ∧ Hid (n' = (entS l f).t.length) ∧ Rd w' Z 1 A' n' ((entS l f).t.map bv) ∧ EyeTo w 41 eb Z (entS l f).L (entS l f).f w' := by
  have hzz : ∀ x, (fun b => Z b ∧ b < w.heap.size) x → Z x := fun x h => h.1
  have hzw : ∀ x, (fun b => Z b ∧ b < w.heap.size) x → x < w.heap.size := fun x h => h.2
  have hz : ¬ (fun b => Z b ∧ b < w.heap.size) eb := fun h => hz h.1
  replace h := h.mono (Z' := fun b => Z b ∧ b < w.heap.size) (fun b h1 h2 => ⟨h2, h1⟩)
  suffices hs : Calls Try.prog 40 #[.pointer (some ⟨eb, 0, none⟩)] w fun e w' => ∃ (p : ByteArray) (A' : Option Addr) (n' c' : Nat), e = .returned (.agg #[.string p, .int .u64 ((entS l f).n : Int), .int .i64 ((entS l f).k : Int), .slice A' n' c']) ∧ Hid (tl p = (entS l f).p) ∧ Hid (n' = (entS l f).t.length) ∧ Rd w' (fun b => Z b ∧ b < w.heap.size) 1 A' n' ((entS l f).t.map bv) ∧ EyeTo w 41 eb (fun b => Z b ∧ b < w.heap.size) (entS l f).L (entS l f).f w' by
    refine hs.mono ?_
    rintro e w' ⟨p, A', n', c', h1, h2, h3, h4, h5⟩
    exact ⟨p, A', n', c', h1, h2, h3, h4.mono (fun b _ hb => hzz b hb), h5.mono hzz⟩
  clear hzz
  generalize hZ' : (fun b => Z b ∧ b < w.heap.size) = Y at *
  clear hZ'
  have hlt := h.1.lt
  have HTX := Lib.hid (fun w h => textR_any eb Y A c l f 96 w h hz (by omega))
  have l1' := textS_len l f 96
  have l1t := textS_tlen l f 96
  unfold entS
  generalize textS l f 96 = r1 at *
  obtain ⟨t1, L1, f1⟩ := r1
  dsimp only at *
  have HNM := Lib.hid (fun w A c h => eyeRead_any eb Y A c L1 f1 18446744073709551615 w h hz)
  have l2' := readS_len L1 f1 18446744073709551615
  have n2 := readS_le L1 f1 18446744073709551615
  generalize readS L1 f1 18446744073709551615 = r2 at *
  obtain ⟨n, L2, f2⟩ := r2
  dsimp only at *
  have HLF := Lib.hid (fun w A c h => leafReadR_any eb Y A c L2 f2 w h hz)
  have l3' := leafS_len L2 f2
  have l3t := leafS_tlen L2 f2
  generalize leafS L2 f2 = r3 at *
  obtain ⟨k, t3, L3, f3⟩ := r3
  dsimp only at *
  obtain ⟨M, hM⟩ : ∃ M, M = (if (if checkE t1 (n : Int) (k : Int) t3.length = 0 then (L3, f3) else failS L3 f3 2).2 ≠ 0 then (⟨[], 0, 0, [], (if checkE t1 (n : Int) (k : Int) t3.length = 0 then (L3, f3) else failS L3 f3 2).1, (if checkE t1 (n : Int) (k : Int) t3.length = 0 then (L3, f3) else failS L3 f3 2).2⟩ : ER) else ⟨t1, n, k, t3, (if checkE t1 (n : Int) (k : Int) t3.length = 0 then (L3, f3) else failS L3 f3 2).1, (if checkE t1 (n : Int) (k : Int) t3.length = 0 then (L3, f3) else failS L3 f3 2).2⟩) := ⟨_, rfl⟩
  rw [← hM]
  have HM := Lib.hid hM
  clear hM
  have bR0 := (Blk.new w 58 #[.string ⟨#[]⟩, .int .u64 0, .int .i64 0, .slice none 0 0]).alloc (.cells #[.string ⟨#[]⟩, .int .u64 0, .int .i64 0, .slice none 0 0] 58)
  have bx0 := Blk.new (w.alloc (.cells #[.string ⟨#[]⟩, .int .u64 0, .int .i64 0, .slice none 0 0] 58)) 58 #[.string ⟨#[]⟩, .int .u64 0, .int .i64 0, .slice none 0 0]
  have hz0 : (w.alloc (.cells #[.string ⟨#[]⟩, .int .u64 0, .int .i64 0, .slice none 0 0] 58)).heap.size = w.heap.size + 1 := by simp
  rw [hz0] at bx0
  have hlow0 : Below w.heap.size w ((w.alloc (.cells #[.string ⟨#[]⟩, .int .u64 0, .int .i64 0, .slice none 0 0] 58)).alloc (.cells #[.string ⟨#[]⟩, .int .u64 0, .int .i64 0, .slice none 0 0] 58)) := (by repeat (first | exact Below.refl _ _ | refine Below.alloc ?_ (by simp) _ | refine Below.setCell ?_ (by simp) _ | refine Below.drew ?_))
  go_enter Try.func40, Try.ntmps40
  go_wp2_with fail
  generalize (w.alloc (.cells #[.string ⟨#[]⟩, .int .u64 0, .int .i64 0, .slice none 0 0] 58)).alloc (.cells #[.string ⟨#[]⟩, .int .u64 0, .int .i64 0, .slice none 0 0] 58) = W0 at *
  have hs0 := bx0.lt
  refine (HTX.out _ (h.below hlow0)).mono ?_
  rintro e w1 ⟨A1, n1, c1, rfl, hn1, hr1, _, _, h1⟩
  obtain rfl := hn1.out
  have hy1 : By w1 Y A1 t1 := hr1
  have hs1 := h1.fr.size
  have bx1 := bx0.fr h1.fr (by omega)
  have bR1 := bR0.fr h1.fr (by omega)
  have ht1 := EyeTo.after hlow0 h1
  have k1 := conv_by hy1 c1
  have q0 : w1.cell? ⟨w.heap.size + 1, 0, none⟩ = some (.string ⟨#[]⟩) := bx1.cell 0
  have q1 := bx1.frozen 0
  go_wp2_with fail
  obtain ⟨ht2, bx2, hf2⟩ := box_set (o := 0) ht1 bx1 (by omega) (by omega) (fun x hx e => by have := hzw x hx; omega) (.string ⟨t1.toArray⟩)
  have bR2 := bR1.fr hf2 (by omega)
  have hs2 := hf2.size
  clear q0 q1 k1 bx0 bR0 hlow0 h1 ht1 HTX hr1 hy1 bR1
  generalize w1.setCell ⟨w.heap.size + 1, 0, none⟩ (.string ⟨t1.toArray⟩) = W2 at *
  obtain ⟨A2, c2, ha2⟩ := ht2.at_
  refine (HNM.out _ A2 c2 ha2).mono ?_
  rintro e w3 ⟨rfl, h3⟩
  dsimp only at h3
  have ht3 := ht2.trans h3
  have bx3 := bx2.fr h3.fr (by omega)
  have bR3 := bR2.fr h3.fr (by omega)
  have hs3 := h3.fr.size
  have q0 := bx3.cell 1
  have q1 := bx3.frozen 1
  simp at q0
  go_wp2_with fail
  obtain ⟨ht4, bx4, hf4⟩ := box_set (o := 1) ht3 bx3 (by omega) (by omega) (fun x hx e => by have := hzw x hx; omega) (.int .u64 (n : Int))
  have bR4 := bR3.fr hf4 (by omega)
  have hs4 := hf4.size
  clear q0 q1 bx2 h3 ht3 ht2 HNM hf2 ha2 bR2 bR3
  generalize w3.setCell ⟨w.heap.size + 1, 1, none⟩ (.int .u64 (n : Int)) = W4 at *
  obtain ⟨A4, c4, ha4⟩ := ht4.at_
  refine (HLF.out _ A4 c4 ha4).mono ?_
  rintro e w5 ⟨A5, n5, c5, rfl, hn5, hr5, _, _, h5⟩
  obtain rfl := hn5.out
  have hy5 : By w5 Y A5 t3 := hr5
  have ht5 := ht4.trans h5
  have bx5 := bx4.fr h5.fr (by omega)
  have bR5 := bR4.fr h5.fr (by omega)
  have hs5 := h5.fr.size
  have hl5s : t3.length ≤ 140737488355328 := by omega
  have q2 := bx5.cell 2
  have q3 := bx5.cell 3
  have g2 := bx5.frozen 2
  have g3 := bx5.frozen 3
  simp at q2 q3
  obtain ⟨ht6, bx6, hf6⟩ := box_set (o := 2) ht5 bx5 (by omega) (by omega) (fun x hx e => by have := hzw x hx; omega) (.int .i64 (k : Int))
  obtain ⟨ht7, bx7, hf7⟩ := box_set (o := 3) ht6 bx6 (by omega) (by omega) (fun x hx e => by have := hzw x hx; omega) (.slice A5 t3.length c5)
  have hs6 := hf6.size
  have bR7 := (bR5.fr hf6 (by omega)).fr hf7 (by omega)
  have hy7 := Rd.fr (Rd.fr hy5 hf6 (fun x _ hx e => by have := hzw x hx; omega)) hf7 (fun x _ hx e => by have := hzw x hx; omega)
  have r0 := bx7.cell 0
  have r1 := bx7.cell 1
  have r2 := bx7.cell 2
  have r3 := bx7.cell 3
  simp at r0 r1 r2 r3
  obtain ⟨A7, c7, ha7⟩ := ht7.at_
  have ea := ha7.c1
  by_cases hf : f3 = 0
  · subst hf
    have HCK := Lib.hid (fun w => refEntryCheck_any ⟨t1.toArray⟩ (n : Int) (k : Int) A5 t3.length c5 w (by show t1.length ≤ _; omega) (by omega) hl5s)
    rw [show tl ⟨t1.toArray⟩ = t1 from rfl] at HCK
    by_cases hC : checkE t1 (n : Int) (k : Int) t3.length = 0
    · have hM1 : M = ⟨t1, n, k, t3, L3, 0⟩ := by
        have h := HM.out
        rw [if_pos hC] at h
        simpa using h
      clear HM
      have HM2 := Lib.hid hM1
      clear hM1
      rw [hC] at HCK
      clear hC
      go_wp2_with fail
      simp only [List.setIfInBounds_toArray] at bx7
      replace bx7 : Blk ((w5.setCell ⟨w.heap.size + 1, 2, none⟩ (.int .i64 (k : Int))).setCell ⟨w.heap.size + 1, 3, none⟩ (.slice A5 t3.length c5)) (w.heap.size + 1) 58 #[.string ⟨t1.toArray⟩, .int .u64 (n : Int), .int .i64 (k : Int), .slice A5 t3.length c5] := bx7
      clear q2 q3 g2 g3 bx6 bx5 ht5 ht6 ht4 h5 HLF hf4 hf6 hf7 ha4 r0 r1 r2 r3 bx4 bx3 bR5 bR4 hy5 hr5 ea ha7
      generalize (w5.setCell ⟨w.heap.size + 1, 2, none⟩ (.int .i64 (k : Int))).setCell ⟨w.heap.size + 1, 3, none⟩ (.slice A5 t3.length c5) = W7 at *
      refine (HCK.out _).mono ?_
      rintro e w8 ⟨rfl, hb8⟩
      have ht8 := ht7.then_ hb8
      have bx8 := bx7.below hb8
      have bR8 := bR7.below hb8
      have hy8 := Rd.below hy7 hb8
      obtain ⟨A8, c8, ha8⟩ := ht8.at_
      have ea := ha8.c1
      have r0 : w8.cell? ⟨w.heap.size + 1, 0, none⟩ = some (.string ⟨t1.toArray⟩) := bx8.cell 0
      have r1 : w8.cell? ⟨w.heap.size + 1, 1, none⟩ = some (.int .u64 (n : Int)) := bx8.cell 1
      have r2 : w8.cell? ⟨w.heap.size + 1, 2, none⟩ = some (.int .i64 (k : Int)) := bx8.cell 2
      have r3 : w8.cell? ⟨w.heap.size + 1, 3, none⟩ = some (.slice A5 t3.length c5) := bx8.cell 3
      have d0 : w8.cell? ⟨w.heap.size, 0, none⟩ = some (.string ⟨#[]⟩) := bR8.cell 0
      have d1 : w8.cell? ⟨w.heap.size, 1, none⟩ = some (.int .u64 0) := bR8.cell 1
      have d2 : w8.cell? ⟨w.heap.size, 2, none⟩ = some (.int .i64 0) := bR8.cell 2
      have d3 : w8.cell? ⟨w.heap.size, 3, none⟩ = some (.slice none 0 0) := bR8.cell 3
      have g0 := bR8.frozen 0
      have g1 := bR8.frozen 1
      have g2 := bR8.frozen 2
      have g3 := bR8.frozen 3
      clear HCK ht7 bx7 bR7 hy7 hb8
      go_wp2_with fail
      obtain ⟨v1, b1, f1'⟩ := box_set (o := 0) ht8 bR8 (Nat.le_refl _) (by omega) (fun x hx e => by have := hzw x hx; omega) (.string ⟨t1.toArray⟩)
      obtain ⟨v2, b2, f2'⟩ := box_set (o := 1) v1 b1 (Nat.le_refl _) (by omega) (fun x hx e => by have := hzw x hx; omega) (.int .u64 (n : Int))
      obtain ⟨v3, b3, f3'⟩ := box_set (o := 2) v2 b2 (Nat.le_refl _) (by omega) (fun x hx e => by have := hzw x hx; omega) (.int .i64 (k : Int))
      obtain ⟨v4, b4, f4'⟩ := box_set (o := 3) v3 b3 (Nat.le_refl _) (by omega) (fun x hx e => by have := hzw x hx; omega) (.slice A5 t3.length c5)
      have hy9 := Rd.fr (Rd.fr (Rd.fr (Rd.fr hy8 f1' (fun x _ hx e => by have := hzw x hx; omega)) f2' (fun x _ hx e => by have := hzw x hx; omega)) f3' (fun x _ hx e => by have := hzw x hx; omega)) f4' (fun x _ hx e => by have := hzw x hx; omega)
      have d0 := b4.cell 0
      have d1 := b4.cell 1
      have d2 := b4.cell 2
      have d3 := b4.cell 3
      simp at d0 d1 d2 d3
      clear b1 b2 b3 b4 v1 v2 v3 f1' f2' f3' f4' r0 r1 r2 r3 g0 g1 g2 g3 hy8
      generalize (((w8.setCell ⟨w.heap.size, 0, none⟩ (.string ⟨t1.toArray⟩)).setCell ⟨w.heap.size, 1, none⟩ (.int .u64 (n : Int))).setCell ⟨w.heap.size, 2, none⟩ (.int .i64 (k : Int))).setCell ⟨w.heap.size, 3, none⟩ (.slice A5 t3.length c5) = V at *
      refine bodyPost_ret (v := .agg #[.string ⟨t1.toArray⟩, .int .u64 (n : Int), .int .i64 (k : Int), .slice A5 t3.length c5]) (by simp [results, Try.results40, go_sem, d0, d1, d2, d3]) rfl ?_
      rw [HM2.out]
      exact ⟨_, A5, _, c5, rfl, Lib.hid rfl, Lib.hid rfl, hy9, v4⟩
    · have hM1 : M = ⟨[], 0, 0, [], [], 2⟩ := by
        have h := HM.out
        rw [if_neg hC] at h
        simpa [failS] using h
      clear HM
      have HM2 := Lib.hid hM1
      clear hM1
      have hCb : (checkE t1 (n : Int) (k : Int) t3.length != 0) = true := by simpa using hC
      clear hC
      generalize checkE t1 (n : Int) (k : Int) t3.length = C at *
      go_wp2_with fail
      clear q2 q3 g2 g3 bx6 bx5 ht5 ht6 ht4 h5 HLF hf4 hf6 hf7 ha4 r0 r1 r2 r3 bx4 bx3 bR5 bR4 hy5 hr5 ea ha7 hy7 bx7
      generalize (w5.setCell ⟨w.heap.size + 1, 2, none⟩ (.int .i64 (k : Int))).setCell ⟨w.heap.size + 1, 3, none⟩ (.slice A5 t3.length c5) = W7 at *
      refine (HCK.out _).mono ?_
      rintro e w8 ⟨rfl, hb8⟩
      have ht8 := ht7.then_ hb8
      have bR8 := bR7.below hb8
      obtain ⟨A8, c8, ha8⟩ := ht8.at_
      clear HCK ht7 bR7 hb8
      go_wp2_with fail
      refine (failR_any eb Y A8 c8 L3 0 2 _ ha8).mono ?_
      rintro e w9 ⟨rfl, h9⟩
      rw [show failS L3 0 2 = ([], 2) by simp [failS]] at h9
      dsimp only at h9
      have ht9 := ht8.trans h9
      have bR9 := bR8.fr h9.fr (by omega)
      obtain ⟨A9, c9, ha9⟩ := ht9.at_
      have ea := ha9.c1
      have d0 : w9.cell? ⟨w.heap.size, 0, none⟩ = some (.string ⟨#[]⟩) := bR9.cell 0
      have d1 : w9.cell? ⟨w.heap.size, 1, none⟩ = some (.int .u64 0) := bR9.cell 1
      have d2 : w9.cell? ⟨w.heap.size, 2, none⟩ = some (.int .i64 0) := bR9.cell 2
      have d3 : w9.cell? ⟨w.heap.size, 3, none⟩ = some (.slice none 0 0) := bR9.cell 3
      have g0 := bR9.frozen 0
      have g1 := bR9.frozen 1
      have g2 := bR9.frozen 2
      have g3 := bR9.frozen 3
      clear h9 ht8 bR8 ha8
      go_wp2_with fail
      obtain ⟨v1, b1, f1'⟩ := box_set (o := 0) ht9 bR9 (Nat.le_refl _) (by omega) (fun x hx e => by have := hzw x hx; omega) (.string ⟨#[]⟩)
      obtain ⟨v2, b2, f2'⟩ := box_set (o := 1) v1 b1 (Nat.le_refl _) (by omega) (fun x hx e => by have := hzw x hx; omega) (.int .u64 0)
      obtain ⟨v3, b3, f3'⟩ := box_set (o := 2) v2 b2 (Nat.le_refl _) (by omega) (fun x hx e => by have := hzw x hx; omega) (.int .i64 0)
      obtain ⟨v4, b4, f4'⟩ := box_set (o := 3) v3 b3 (Nat.le_refl _) (by omega) (fun x hx e => by have := hzw x hx; omega) (.slice none 0 0)
      have d0 := b4.cell 0
      have d1 := b4.cell 1
      have d2 := b4.cell 2
      have d3 := b4.cell 3
      simp at d0 d1 d2 d3
      clear b1 b2 b3 b4 v1 v2 v3 f1' f2' f3' f4' g0 g1 g2 g3
      generalize (((w9.setCell ⟨w.heap.size, 0, none⟩ (.string ⟨#[]⟩)).setCell ⟨w.heap.size, 1, none⟩ (.int .u64 0)).setCell ⟨w.heap.size, 2, none⟩ (.int .i64 0)).setCell ⟨w.heap.size, 3, none⟩ (.slice none 0 0) = V at *
      refine bodyPost_ret (v := .agg #[.string ⟨#[]⟩, .int .u64 0, .int .i64 0, .slice none 0 0]) (by simp [results, Try.results40, go_sem, d0, d1, d2, d3]) rfl ?_
      rw [HM2.out]
      exact ⟨_, none, 0, 0, rfl, Lib.hid rfl, Lib.hid rfl, Rd.nil, v4⟩
  · have hM1 : M = ⟨[], 0, 0, [], L3, f3⟩ := by
      have h := HM.out
      have e : failS L3 f3 2 = (L3, f3) := by unfold failS; rw [if_neg (by omega)]
      rw [e, ite_self] at h
      simpa [hf] using h
    clear HM
    have HM2 := Lib.hid hM1
    clear hM1
    have hfb : (f3 == 0) = false := by simpa using hf
    have hfc : (f3 != 0) = true := by simpa using hf
    have d0 : ((w5.setCell ⟨w.heap.size + 1, 2, none⟩ (.int .i64 (k : Int))).setCell ⟨w.heap.size + 1, 3, none⟩ (.slice A5 t3.length c5)).cell? ⟨w.heap.size, 0, none⟩ = some (.string ⟨#[]⟩) := bR7.cell 0
    have d1 : ((w5.setCell ⟨w.heap.size + 1, 2, none⟩ (.int .i64 (k : Int))).setCell ⟨w.heap.size + 1, 3, none⟩ (.slice A5 t3.length c5)).cell? ⟨w.heap.size, 1, none⟩ = some (.int .u64 0) := bR7.cell 1
    have d2 : ((w5.setCell ⟨w.heap.size + 1, 2, none⟩ (.int .i64 (k : Int))).setCell ⟨w.heap.size + 1, 3, none⟩ (.slice A5 t3.length c5)).cell? ⟨w.heap.size, 2, none⟩ = some (.int .i64 0) := bR7.cell 2
    have d3 : ((w5.setCell ⟨w.heap.size + 1, 2, none⟩ (.int .i64 (k : Int))).setCell ⟨w.heap.size + 1, 3, none⟩ (.slice A5 t3.length c5)).cell? ⟨w.heap.size, 3, none⟩ = some (.slice none 0 0) := bR7.cell 3
    have e0 := bR7.frozen 0
    have e1 := bR7.frozen 1
    have e2 := bR7.frozen 2
    have e3 := bR7.frozen 3
    go_wp2_with fail
    obtain ⟨v1, b1, f1'⟩ := box_set (o := 0) ht7 bR7 (Nat.le_refl _) (by omega) (fun x hx e => by have := hzw x hx; omega) (.string ⟨#[]⟩)
    obtain ⟨v2, b2, f2'⟩ := box_set (o := 1) v1 b1 (Nat.le_refl _) (by omega) (fun x hx e => by have := hzw x hx; omega) (.int .u64 0)
    obtain ⟨v3, b3, f3'⟩ := box_set (o := 2) v2 b2 (Nat.le_refl _) (by omega) (fun x hx e => by have := hzw x hx; omega) (.int .i64 0)
    obtain ⟨v4, b4, f4'⟩ := box_set (o := 3) v3 b3 (Nat.le_refl _) (by omega) (fun x hx e => by have := hzw x hx; omega) (.slice none 0 0)
    clear d0 d1 d2 d3
    have d0 := b4.cell 0
    have d1 := b4.cell 1
    have d2 := b4.cell 2
    have d3 := b4.cell 3
    simp at d0 d1 d2 d3
    generalize (w5.setCell ⟨w.heap.size + 1, 2, none⟩ (.int .i64 (k : Int))).setCell ⟨w.heap.size + 1, 3, none⟩ (.slice A5 t3.length c5) = W7 at *
    clear b1 b2 b3 b4 v1 v2 v3 f1' f2' f3' f4' g2 g3
    generalize (((W7.setCell ⟨w.heap.size, 0, none⟩ (.string ⟨#[]⟩)).setCell ⟨w.heap.size, 1, none⟩ (.int .u64 0)).setCell ⟨w.heap.size, 2, none⟩ (.int .i64 0)).setCell ⟨w.heap.size, 3, none⟩ (.slice none 0 0) = V at *
    refine bodyPost_ret (v := .agg #[.string ⟨#[]⟩, .int .u64 0, .int .i64 0, .slice none 0 0]) (by simp [results, Try.results40, go_sem, d0, d1, d2, d3]) rfl ?_
    rw [HM2.out]
    exact ⟨_, none, 0, 0, rfl, Lib.hid rfl, Lib.hid rfl, Rd.nil, v4⟩
end Go.Proofs.Ytofllgmieciakab
