/- entry.Read. -/
import Derived.Test.YtofllgmieciakabEntryLight
import Derived.Test.YtofllgmieciakabLeafRead
namespace Go.Proofs.Ytofllgmieciakab
open Go.RowKit

/-- what is read -/
structure ER where
  p : List UInt8
  n : Nat
  k : Nat
  t : List UInt8
  L : List UInt8
  f : Int
/-- an entry is read -/
def entS (l : List UInt8) (f : Int) : ER :=
  let r1 := textS l f 96
  let r2 := readS r1.2.1 r1.2.2 18446744073709551615
  let r3 := leafS r2.2.1 r2.2.2
  let r4 := if checkE r1.1 r2.1 r3.1 r3.2.1.length = 0 then (r3.2.2.1, r3.2.2.2) else failS r3.2.2.1 r3.2.2.2 2
  if r4.2 ≠ 0 then ⟨[], 0, 0, [], r4.1, r4.2⟩ else ⟨r1.1, r2.1, r3.1, r3.2.1, r4.1, r4.2⟩
theorem textS_tlen (l : List UInt8) (f most : Int) : (textS l f most).1.length ≤ l.length := by
  have h := intS_len l f most
  unfold textS
  dsimp only
  split
  · simp
  · split
    · simp
    · simp only [List.length_take]; omega
theorem leafS_tlen (l : List UInt8) (f : Int) : (leafS l f).2.1.length ≤ l.length := by
  have h1 := intS_len l f 2
  have h2 := textS_tlen (intS l f 2).2.1 (intS l f 2).2.2 4096
  unfold leafS
  dsimp only
  split
  · split <;> simp <;> omega
  · split <;> simp
theorem entS_len (l : List UInt8) (f : Int) : (entS l f).L.length ≤ l.length := by
  have h1 := textS_len l f 96
  have h2 := readS_len (textS l f 96).2.1 (textS l f 96).2.2 18446744073709551615
  have h3 := leafS_len (readS (textS l f 96).2.1 (textS l f 96).2.2 18446744073709551615).2.1 (readS (textS l f 96).2.1 (textS l f 96).2.2 18446744073709551615).2.2
  have h4 := failS_len (leafS (readS (textS l f 96).2.1 (textS l f 96).2.2 18446744073709551615).2.1 (readS (textS l f 96).2.1 (textS l f 96).2.2 18446744073709551615).2.2).2.2.1 (leafS (readS (textS l f 96).2.1 (textS l f 96).2.2 18446744073709551615).2.1 (readS (textS l f 96).2.1 (textS l f 96).2.2 18446744073709551615).2.2).2.2.2 2
  unfold entS
  dsimp only
  split <;> split <;> dsimp only <;> omega
/-- a box of the call's own, one cell stored -/
theorem box_set {w w1 : World} {T eb bx t o : Nat} {Y : Nat → Prop} {L : List UInt8} {f : Int} {cs : Array Value} (ht : EyeTo w T eb Y L f w1) (hb : Blk w1 bx t cs) (h1 : w.heap.size ≤ bx) (h2 : bx ≠ eb) (h3 : ∀ x, Y x → x ≠ bx) (u : Value) :
    EyeTo w T eb Y L f (w1.setCell ⟨bx, o, none⟩ u) ∧ Blk (w1.setCell ⟨bx, o, none⟩ u) bx t (cs.setIfInBounds o u) ∧ Fr (fun x => x = bx) w1 (w1.setCell ⟨bx, o, none⟩ u) :=
  have k : Fr (fun x => x = bx) w1 (w1.setCell ⟨bx, o, none⟩ u) := (Fr.refl (fun x => x = bx) w1).setAt bx o rfl _
  ⟨ht.side k h1 h2 h3, hb.set_ o u, k⟩

set_option maxRecDepth 100000 in
set_option maxHeartbeats 2000000 in
theorem entryRead_any (eb : Nat) (Z : Nat → Prop) (A : Option Addr) (c : Nat) (l : List UInt8) (f : Int) (w : World) (h : EyeAt w 76 eb Z A c l f) (hz : ¬ Z eb) (hl : l.length ≤ 140737488355328) :
    Calls Try.prog 39 #[.pointer (some ⟨eb, 0, none⟩)] w fun e w' => ∃ (p : ByteArray) (A' : Option Addr) (c' : Nat) (l' : List UInt8), e = .returned (.agg #[.string p, .int .u64 ((entS l f).n : Int), .int .i64 ((entS l f).k : Int), .slice A' l'.length c']) ∧ Hid (tl p = (entS l f).p) ∧ Hid (l' = (entS l f).t) ∧ OwB w' w.heap.size (.slice A' l'.length c') l' ∧ EyeTo w 76 eb Z (entS l f).L (entS l f).f w' := by
  have hzz : ∀ x, (fun b => Z b ∧ b < w.heap.size) x → Z x := fun x h => h.1
  have hzw : ∀ x, (fun b => Z b ∧ b < w.heap.size) x → x ≠ w.heap.size := fun x h e => by have := h.2; omega
  have hz : ¬ (fun b => Z b ∧ b < w.heap.size) eb := fun h => hz h.1
  replace h := h.mono (Z' := fun b => Z b ∧ b < w.heap.size) (fun b h1 h2 => ⟨h2, h1⟩)
  suffices hs : Calls Try.prog 39 #[.pointer (some ⟨eb, 0, none⟩)] w fun e w' => ∃ (p : ByteArray) (A' : Option Addr) (c' : Nat) (l' : List UInt8), e = .returned (.agg #[.string p, .int .u64 ((entS l f).n : Int), .int .i64 ((entS l f).k : Int), .slice A' l'.length c']) ∧ Hid (tl p = (entS l f).p) ∧ Hid (l' = (entS l f).t) ∧ OwB w' w.heap.size (.slice A' l'.length c') l' ∧ EyeTo w 76 eb (fun b => Z b ∧ b < w.heap.size) (entS l f).L (entS l f).f w' by
    refine hs.mono ?_
    rintro e w' ⟨p, A', c', l', h1, h2, h3, h4, h5⟩
    exact ⟨p, A', c', l', h1, h2, h3, h4, h5.mono hzz⟩
  clear hzz
  generalize hZ' : (fun b => Z b ∧ b < w.heap.size) = Y at *
  clear hZ'
  have hlt := h.1.lt
  -- the parts of what is read
  have HTX := Lib.hid (fun w h => text_any eb Y A c l f 96 w h hz (by omega) hl)
  have l1' := textS_len l f 96
  have l1t := textS_tlen l f 96
  unfold entS
  generalize textS l f 96 = r1 at *
  obtain ⟨t1, L1, f1⟩ := r1
  dsimp only at *
  have HNM := Lib.hid (fun w A c h => eyeNum_any eb Y A c L1 f1 18446744073709551615 w h hz)
  have l2' := readS_len L1 f1 18446744073709551615
  have n2 := readS_le L1 f1 18446744073709551615
  generalize readS L1 f1 18446744073709551615 = r2 at *
  obtain ⟨n, L2, f2⟩ := r2
  dsimp only at *
  have HLF := Lib.hid (fun w A c h => leafRead_any eb Y A c L2 f2 w h hz (by omega))
  have l3' := leafS_len L2 f2
  have l3t := leafS_tlen L2 f2
  generalize leafS L2 f2 = r3 at *
  obtain ⟨k, t3, L3, f3⟩ := r3
  dsimp only at *
  obtain ⟨M, hM⟩ : ∃ M, M = (if (if checkE t1 (n : Int) (k : Int) t3.length = 0 then (L3, f3) else failS L3 f3 2).2 ≠ 0 then (⟨[], 0, 0, [], (if checkE t1 (n : Int) (k : Int) t3.length = 0 then (L3, f3) else failS L3 f3 2).1, (if checkE t1 (n : Int) (k : Int) t3.length = 0 then (L3, f3) else failS L3 f3 2).2⟩ : ER) else ⟨t1, n, k, t3, (if checkE t1 (n : Int) (k : Int) t3.length = 0 then (L3, f3) else failS L3 f3 2).1, (if checkE t1 (n : Int) (k : Int) t3.length = 0 then (L3, f3) else failS L3 f3 2).2⟩) := ⟨_, rfl⟩
  rw [← hM]
  have HM := Lib.hid hM
  clear hM
  have bx0 := Blk.new w 58 #[.string ⟨#[]⟩, .int .u64 0, .int .i64 0, .slice none 0 0]
  have hlow0 : Below w.heap.size w (w.alloc (.cells #[.string ⟨#[]⟩, .int .u64 0, .int .i64 0, .slice none 0 0] 58)) := (Below.refl _ _).alloc (Nat.le_refl _) _
  have hz0 : (w.alloc (.cells #[.string ⟨#[]⟩, .int .u64 0, .int .i64 0, .slice none 0 0] 58)).heap.size = w.heap.size + 1 := by simp
  go_enter Try.func39, Try.ntmps39
  go_wp2_with fail
  generalize w.alloc (.cells #[.string ⟨#[]⟩, .int .u64 0, .int .i64 0, .slice none 0 0] 58) = W0 at *
  refine (HTX.out _ (h.below hlow0)).mono ?_
  rintro e w1 ⟨A1, c1, l1, rfl, hl1, ho1, h1⟩
  obtain rfl := hl1.out
  have hs1 := h1.fr.size
  have bx1 : Blk w1 w.heap.size 58 #[.string ⟨#[]⟩, .int .u64 0, .int .i64 0, .slice none 0 0] := bx0.fr h1.fr (by omega)
  have ht1 := EyeTo.after hlow0 h1
  have k1 := conv_by ho1.rd c1
  have hl1s : l1.length ≤ 140737488355328 := by omega
  have q0 : w1.cell? ⟨w.heap.size, 0, none⟩ = some (.string ⟨#[]⟩) := bx1.cell 0
  have q1 := bx1.frozen 0
  go_wp2_with fail
  obtain ⟨ht2, bx2, hf2⟩ := box_set (o := 0) ht1 bx1 (Nat.le_refl _) (by omega) hzw (.string ⟨l1.toArray⟩)
  have hs2 := hf2.size
  clear q0 q1 k1 bx0 hlow0 h1 ht1 HTX ho1
  generalize w1.setCell ⟨w.heap.size, 0, none⟩ (.string ⟨l1.toArray⟩) = W2 at *
  obtain ⟨A2, c2, ha2⟩ := ht2.at_
  refine (HNM.out _ A2 c2 ha2).mono ?_
  rintro e w3 ⟨rfl, h3⟩
  dsimp only at h3
  have ht3 := ht2.trans h3
  have bx3 := bx2.fr h3.fr (by omega)
  have hs3 := h3.fr.size
  have q0 := bx3.cell 1
  have q1 := bx3.frozen 1
  simp at q0
  go_wp2_with fail
  obtain ⟨ht4, bx4, hf4⟩ := box_set (o := 1) ht3 bx3 (Nat.le_refl _) (by omega) hzw (.int .u64 (n : Int))
  have hs4 := hf4.size
  clear q0 q1 bx2 h3 ht3 ht2 HNM hf2 ha2
  generalize w3.setCell ⟨w.heap.size, 1, none⟩ (.int .u64 (n : Int)) = W4 at *
  obtain ⟨A4, c4, ha4⟩ := ht4.at_
  refine (HLF.out _ A4 c4 ha4).mono ?_
  rintro e w5 ⟨A5, c5, l5, rfl, hl5, ho5, h5⟩
  obtain rfl := hl5.out
  have ht5 := ht4.trans h5
  have bx5 := bx4.fr h5.fr (by omega)
  have hs5 := h5.fr.size
  have hl5s : l5.length ≤ 140737488355328 := by omega
  have q2 := bx5.cell 2
  have q3 := bx5.cell 3
  have g2 := bx5.frozen 2
  have g3 := bx5.frozen 3
  simp at q2 q3
  obtain ⟨ht6, bx6, hf6⟩ := box_set (o := 2) ht5 bx5 (Nat.le_refl _) (by omega) hzw (.int .i64 (k : Int))
  obtain ⟨ht7, bx7, hf7⟩ := box_set (o := 3) ht6 bx6 (Nat.le_refl _) (by omega) hzw (.slice A5 l5.length c5)
  have ho7 := (ho5.fr hf6 (fun g hg e => by have := (ho5.lt g hg).1; omega)).fr hf7 (fun g hg e => by have := (ho5.lt g hg).1; omega)
  replace ho7 := own_base (base' := w.heap.size) ho7 (fun g hg => by have := (ho5.lt g hg).1; omega)
  have r0 := bx7.cell 0
  have r1 := bx7.cell 1
  have r2 := bx7.cell 2
  have r3 := bx7.cell 3
  simp at r0 r1 r2 r3
  go_wp2_with fail
  simp only [List.setIfInBounds_toArray] at bx7
  replace bx7 : Blk ((w5.setCell ⟨w.heap.size, 2, none⟩ (.int .i64 (k : Int))).setCell ⟨w.heap.size, 3, none⟩ (.slice A5 l5.length c5)) w.heap.size 58 #[.string ⟨l1.toArray⟩, .int .u64 (n : Int), .int .i64 (k : Int), .slice A5 l5.length c5] := bx7
  clear q2 q3 g2 g3 bx6 bx5 ht5 ht6 ht4 h5 HLF hf4 hf6 hf7 ha4 r0 r1 r2 r3 bx4 bx3
  generalize (w5.setCell ⟨w.heap.size, 2, none⟩ (.int .i64 (k : Int))).setCell ⟨w.heap.size, 3, none⟩ (.slice A5 l5.length c5) = W7 at *
  have HCK := Lib.hid (fun w => entryCheck_any ⟨l1.toArray⟩ (n : Int) (k : Int) A5 l5.length c5 w (by show l1.length ≤ _; omega) (by omega) hl5s)
  rw [show tl ⟨l1.toArray⟩ = l1 from rfl] at HCK
  by_cases hC : checkE l1 (n : Int) (k : Int) l5.length = 0
  · have hM1 : M = (if f3 ≠ 0 then ⟨[], 0, 0, [], L3, f3⟩ else ⟨l1, n, k, l5, L3, f3⟩) := by
      have h := HM.out
      rw [if_pos hC] at h
      exact h
    clear HM
    have HM := Lib.hid hM1
    clear hM1
    rw [hC] at HCK
    clear hC
    refine (HCK.out _).mono ?_
    rintro e w8 ⟨rfl, hb8⟩
    have ht8 := ht7.then_ hb8
    have bx8 := bx7.below hb8
    have ho8 := OwB.below ho7 hb8
    have hs8 := hb8.size
    obtain ⟨A8, c8, ha8⟩ := ht8.at_
    clear HCK ht7 bx7 ho7 hb8
    go_wp2_with fail
    refine (fault_any eb Y A8 c8 L3 f3 _ ha8).mono ?_
    rintro e w9 ⟨rfl, rfl⟩
    have r0 : w8.cell? ⟨w.heap.size, 0, none⟩ = some (.string ⟨l1.toArray⟩) := bx8.cell 0
    have r1 : w8.cell? ⟨w.heap.size, 1, none⟩ = some (.int .u64 (n : Int)) := bx8.cell 1
    have r2 : w8.cell? ⟨w.heap.size, 2, none⟩ = some (.int .i64 (k : Int)) := bx8.cell 2
    have r3 : w8.cell? ⟨w.heap.size, 3, none⟩ = some (.slice A5 l5.length c5) := bx8.cell 3
    have g0 := bx8.frozen 0
    have g1 := bx8.frozen 1
    have g2 := bx8.frozen 2
    have g3 := bx8.frozen 3
    have hbw := bx8.lt
    by_cases hf : f3 = 0
    · subst hf
      have HM2 := Lib.hid (HM.out.trans (if_neg (by simp)))
      clear HM
      go_wp2_with fail
      obtain ⟨v1, b1, f1'⟩ := box_set (o := 0) ht8 bx8 (Nat.le_refl _) (by omega) hzw (.string ⟨l1.toArray⟩)
      obtain ⟨v2, b2, f2'⟩ := box_set (o := 1) v1 b1 (Nat.le_refl _) (by omega) hzw (.int .u64 (n : Int))
      obtain ⟨v3, b3, f3'⟩ := box_set (o := 2) v2 b2 (Nat.le_refl _) (by omega) hzw (.int .i64 (k : Int))
      obtain ⟨v4, b4, f4'⟩ := box_set (o := 3) v3 b3 (Nat.le_refl _) (by omega) hzw (.slice A5 l5.length c5)
      have ho9 := (((ho8.past bx8 (by decide) f1').past b1 (by decide) f2').past b2 (by decide) f3').past b3 (by decide) f4'
      have d0 := b4.cell 0
      have d1 := b4.cell 1
      have d2 := b4.cell 2
      have d3 := b4.cell 3
      simp at d0 d1 d2 d3
      clear b1 b2 b3 b4 v1 v2 v3 f1' f2' f3' f4' r0 r1 r2 r3 g0 g1 g2 g3
      generalize (((w8.setCell ⟨w.heap.size, 0, none⟩ (.string ⟨l1.toArray⟩)).setCell ⟨w.heap.size, 1, none⟩ (.int .u64 (n : Int))).setCell ⟨w.heap.size, 2, none⟩ (.int .i64 (k : Int))).setCell ⟨w.heap.size, 3, none⟩ (.slice A5 l5.length c5) = V at *
      refine bodyPost_ret (v := .agg #[.string ⟨l1.toArray⟩, .int .u64 (n : Int), .int .i64 (k : Int), .slice A5 l5.length c5]) (by simp [results, Try.results39, go_sem, d0, d1, d2, d3]) rfl ?_
      rw [HM2.out]
      exact ⟨_, A5, c5, l5, rfl, Lib.hid rfl, Lib.hid rfl, ho9, v4⟩
    · have HM2 := Lib.hid (HM.out.trans (if_pos hf))
      clear HM
      have hfb : (f3 != 0) = true := by simpa using hf
      go_wp2_with fail
      obtain ⟨v1, b1, f1'⟩ := box_set (o := 0) ht8 bx8 (Nat.le_refl _) (by omega) hzw (.string ⟨#[]⟩)
      obtain ⟨v2, b2, f2'⟩ := box_set (o := 1) v1 b1 (Nat.le_refl _) (by omega) hzw (.int .u64 0)
      obtain ⟨v3, b3, f3'⟩ := box_set (o := 2) v2 b2 (Nat.le_refl _) (by omega) hzw (.int .i64 0)
      obtain ⟨v4, b4, f4'⟩ := box_set (o := 3) v3 b3 (Nat.le_refl _) (by omega) hzw (.slice none 0 0)
      have d0 := b4.cell 0
      have d1 := b4.cell 1
      have d2 := b4.cell 2
      have d3 := b4.cell 3
      simp at d0 d1 d2 d3
      clear b1 b2 b3 b4 v1 v2 v3 f1' f2' f3' f4' r0 r1 r2 r3 g0 g1 g2 g3
      generalize (((w8.setCell ⟨w.heap.size, 0, none⟩ (.string ⟨#[]⟩)).setCell ⟨w.heap.size, 1, none⟩ (.int .u64 0)).setCell ⟨w.heap.size, 2, none⟩ (.int .i64 0)).setCell ⟨w.heap.size, 3, none⟩ (.slice none 0 0) = V at *
      refine bodyPost_ret (v := .agg #[.string ⟨#[]⟩, .int .u64 0, .int .i64 0, .slice none 0 0]) (by simp [results, Try.results39, go_sem, d0, d1, d2, d3]) rfl ?_
      rw [HM2.out]
      exact ⟨_, none, 0, [], rfl, Lib.hid rfl, Lib.hid rfl, OwB.nil _ _, v4⟩
  · have hCb : (checkE l1 (n : Int) (k : Int) l5.length != 0) = true := by simpa using hC
    have hCe : (checkE l1 (n : Int) (k : Int) l5.length == 0) = false := by simpa using hC
    have hfl : (failS L3 f3 2).2 ≠ 0 := by unfold failS; split <;> simp_all
    have hM1 : M = ⟨[], 0, 0, [], (failS L3 f3 2).1, (failS L3 f3 2).2⟩ := by
      have h := HM.out
      rw [if_neg hC, if_pos hfl] at h
      exact h
    clear HM
    have HM2 := Lib.hid hM1
    clear hM1
    clear hC
    generalize checkE l1 (n : Int) (k : Int) l5.length = C at *
    refine (HCK.out _).mono ?_
    rintro e w8 ⟨rfl, hb8⟩
    have ht8 := ht7.then_ hb8
    have bx8 := bx7.below hb8
    have hs8 := hb8.size
    obtain ⟨A8, c8, ha8⟩ := ht8.at_
    clear HCK ht7 bx7 ho7 hb8
    go_wp2_with fail
    refine (fail_any eb Y A8 c8 L3 f3 2 _ ha8).mono ?_
    rintro e w9 ⟨rfl, h9⟩
    have ht9 := ht8.trans h9
    have bx9 := bx8.fr h9.fr (by have := bx8.lt; omega)
    have hs9 := h9.fr.size
    generalize failS L3 f3 2 = r4 at *
    obtain ⟨L4, f4⟩ := r4
    dsimp only at *
    obtain ⟨A9, c9, ha9⟩ := ht9.at_
    clear h9 ht8 bx8 ha8
    go_wp2_with fail
    refine (fault_any eb Y A9 c9 L4 f4 _ ha9).mono ?_
    rintro e w10 ⟨rfl, rfl⟩
    have r0 : w9.cell? ⟨w.heap.size, 0, none⟩ = some (.string ⟨l1.toArray⟩) := bx9.cell 0
    have r1 : w9.cell? ⟨w.heap.size, 1, none⟩ = some (.int .u64 (n : Int)) := bx9.cell 1
    have r2 : w9.cell? ⟨w.heap.size, 2, none⟩ = some (.int .i64 (k : Int)) := bx9.cell 2
    have r3 : w9.cell? ⟨w.heap.size, 3, none⟩ = some (.slice A5 l5.length c5) := bx9.cell 3
    have g0 := bx9.frozen 0
    have g1 := bx9.frozen 1
    have g2 := bx9.frozen 2
    have g3 := bx9.frozen 3
    have hfb : (f4 != 0) = true := by simpa using hfl
    go_wp2_with fail
    obtain ⟨v1, b1, f1'⟩ := box_set (o := 0) ht9 bx9 (Nat.le_refl _) (by omega) hzw (.string ⟨#[]⟩)
    obtain ⟨v2, b2, f2'⟩ := box_set (o := 1) v1 b1 (Nat.le_refl _) (by omega) hzw (.int .u64 0)
    obtain ⟨v3, b3, f3'⟩ := box_set (o := 2) v2 b2 (Nat.le_refl _) (by omega) hzw (.int .i64 0)
    obtain ⟨v4, b4, f4'⟩ := box_set (o := 3) v3 b3 (Nat.le_refl _) (by omega) hzw (.slice none 0 0)
    have d0 := b4.cell 0
    have d1 := b4.cell 1
    have d2 := b4.cell 2
    have d3 := b4.cell 3
    simp at d0 d1 d2 d3
    clear b1 b2 b3 b4 v1 v2 v3 f1' f2' f3' f4' r0 r1 r2 r3 g0 g1 g2 g3
    generalize (((w9.setCell ⟨w.heap.size, 0, none⟩ (.string ⟨#[]⟩)).setCell ⟨w.heap.size, 1, none⟩ (.int .u64 0)).setCell ⟨w.heap.size, 2, none⟩ (.int .i64 0)).setCell ⟨w.heap.size, 3, none⟩ (.slice none 0 0) = V at *
    refine bodyPost_ret (v := .agg #[.string ⟨#[]⟩, .int .u64 0, .int .i64 0, .slice none 0 0]) (by simp [results, Try.results39, go_sem, d0, d1, d2, d3]) rfl ?_
    rw [HM2.out]
    exact ⟨_, none, 0, [], rfl, Lib.hid rfl, Lib.hid rfl, OwB.nil _ _, v4⟩
end Go.Proofs.Ytofllgmieciakab
