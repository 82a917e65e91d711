/- leaf.Read, tenderref07.Read, tenderref07.Bytes. -/
import Derived.Test.YtofllgmieciakabLeafWrite
import Derived.Test.YtofllgmieciakabTwoEye
namespace Go.Proofs.Ytofllgmieciakab
open Go.RowKit

/-- a leaf is read: its kind, its bytes, what is left, the fault -/
def leafS (l : List UInt8) (f : Int) : Nat × List UInt8 × List UInt8 × Int :=
  let r := intS l f 2
  let s := if r.1 = 1 then textS r.2.1 r.2.2 4096 else ([], r.2.1, r.2.2)
  if s.2.2 ≠ 0 then (0, [], s.2.1, s.2.2) else (r.1, s.1, s.2.1, s.2.2)
theorem leafS_len (l : List UInt8) (f : Int) : (leafS l f).2.2.1.length ≤ l.length := by
  have h1 := intS_len l f 2
  have h2 := textS_len (intS l f 2).2.1 (intS l f 2).2.2 4096
  unfold leafS
  dsimp only
  split
  · split <;> dsimp only <;> omega
  · split <;> dsimp only <;> omega

set_option maxHeartbeats 1000000 in
theorem leafRead_any (eb : Nat) (Z : Nat → Prop) (A : Option Addr) (c : Nat) (l : List UInt8) (f : Int) (w : World) (h : EyeAt w 76 eb Z A c l f) (hz : ¬ Z eb) (hl : l.length ≤ 140737488355328) :
    Calls Try.prog 21 #[.pointer (some ⟨eb, 0, none⟩)] w fun e w' => ∃ (A' : Option Addr) (c' : Nat) (l' : List UInt8), e = .returned (.agg #[.int .i64 ((leafS l f).1 : Int), .slice A' l'.length c']) ∧ Hid (l' = (leafS l f).2.1) ∧ OwB w' w.heap.size (.slice A' l'.length c') l' ∧ EyeTo w 76 eb Z (leafS l f).2.2.1 (leafS l f).2.2.2 w' := by
  have hzz : ∀ x, (fun b => Z b ∧ b < w.heap.size) x → Z x := fun x h => h.1
  have hzw : ∀ x, (fun b => Z b ∧ b < w.heap.size) x → x ≠ w.heap.size := fun x h e => by have := h.2; omega
  have hz : ¬ (fun b => Z b ∧ b < w.heap.size) eb := fun h => hz h.1
  replace h := h.mono (Z' := fun b => Z b ∧ b < w.heap.size) (fun b h1 h2 => ⟨h2, h1⟩)
  suffices hs : Calls Try.prog 21 #[.pointer (some ⟨eb, 0, none⟩)] w fun e w' => ∃ (A' : Option Addr) (c' : Nat) (l' : List UInt8), e = .returned (.agg #[.int .i64 ((leafS l f).1 : Int), .slice A' l'.length c']) ∧ Hid (l' = (leafS l f).2.1) ∧ OwB w' w.heap.size (.slice A' l'.length c') l' ∧ EyeTo w 76 eb (fun b => Z b ∧ b < w.heap.size) (leafS l f).2.2.1 (leafS l f).2.2.2 w' by
    refine hs.mono ?_
    rintro e w' ⟨A', c', l', h1, h2, h3, h4⟩
    exact ⟨A', c', l', h1, h2, h3, h4.mono hzz⟩
  clear hzz
  generalize hZ' : (fun b => Z b ∧ b < w.heap.size) = Y at *
  clear hZ'
  have hn := fun w (h : EyeAt w 76 eb Y A c l f) => int_any eb Y A c l f 2 w h hz (by omega)
  have HN := Lib.hid hn
  have hil := intS_len l f 2
  clear hn
  unfold leafS
  generalize intS l f 2 = r at *
  obtain ⟨n, l1, f1⟩ := r
  dsimp only at *
  have hlt := h.1.lt
  by_cases hn1 : n = 1
  · rw [if_pos hn1]
    subst hn1
    have htx := fun w A2 c2 h => text_any eb Y A2 c2 l1 f1 4096 w h hz (by omega) (by omega)
    have HTX := Lib.hid htx
    clear htx
    generalize textS l1 f1 4096 = r at *
    obtain ⟨t, l2, f2⟩ := r
    dsimp only at *
    by_cases hf : f2 = 0
    · subst hf
      rw [if_neg (by simp)]
      go_enter Try.func21, Try.ntmps21
      go_wp2_with fail
      have bx0 := Blk.new w 24 #[.int .i64 0, .slice none 0 0]
      have hlow0 : Below w.heap.size w (w.alloc (.cells #[.int .i64 0, .slice none 0 0] 24)) := (Below.refl _ _).alloc (Nat.le_refl _) _
      refine (HN.out _ (h.below hlow0)).mono ?_
      rintro e w1 ⟨rfl, h1⟩
      dsimp only at h1
      have hs1 := h1.fr.size
      simp at hs1
      have bx1 : Blk w1 w.heap.size 24 #[.int .i64 0, .slice none 0 0] := bx0.fr h1.fr (by omega)
      have ht1 := EyeTo.after hlow0 h1
      have bx2 : Blk (w1.setCell ⟨w.heap.size, 0, none⟩ (.int .i64 1)) w.heap.size 24 #[.int .i64 1, .slice none 0 0] := by simpa using bx1.set_ 0 (.int .i64 1)
      have hf2 : Fr (fun x => x = w.heap.size) w1 (w1.setCell ⟨w.heap.size, 0, none⟩ (.int .i64 1)) := (Fr.refl (fun x => x = w.heap.size) w1).setAt w.heap.size 0 rfl _
      have ht2 := ht1.side hf2 (Nat.le_refl _) (by omega) hzw
      have hs2 := hf2.size
      have q0 := bx1.cell 0
      have q1 := bx1.frozen 0
      have r0 : (w1.setCell ⟨w.heap.size, 0, none⟩ (.int .i64 1)).cell? ⟨w.heap.size, 0, none⟩ = some (.int .i64 1) := bx2.cell 0
      obtain ⟨A2, c2, ha2⟩ := ht2.at_
      clear h1 ht1 hf2 bx0 hlow0 HN
      go_wp2_with fail
      clear r0 q0 q1 bx1
      generalize w1.setCell ⟨w.heap.size, 0, none⟩ (.int .i64 1) = W1 at *
      refine (HTX.out W1 A2 c2 ha2).mono ?_
      rintro e w3 ⟨A4, c4, l4, rfl, hl4, ho4, ht4⟩
      have ht3 := ht2.trans ht4
      have bx3 : Blk w3 w.heap.size 24 #[.int .i64 1, .slice none 0 0] := bx2.fr ht4.fr (by omega)
      have bxW : Blk (w3.setCell ⟨w.heap.size, 1, none⟩ (.slice A4 l4.length c4)) w.heap.size 24 #[.int .i64 1, .slice A4 l4.length c4] := by simpa using bx3.set_ 1 (.slice A4 l4.length c4)
      have hfW : Fr (fun x => x = w.heap.size) w3 (w3.setCell ⟨w.heap.size, 1, none⟩ (.slice A4 l4.length c4)) := (Fr.refl (fun x => x = w.heap.size) w3).setAt w.heap.size 1 rfl _
      have hsW := bx2.lt
      have ht := ht3.side hfW (Nat.le_refl _) (by omega) hzw
      have ho : OwB (w3.setCell ⟨w.heap.size, 1, none⟩ (.slice A4 l4.length c4)) w.heap.size (.slice A4 l4.length c4) l4 := own_base (ho4.fr hfW (fun g hg e => by have := (ho4.lt g hg).1; omega)) (fun g hg => by have := (ho4.lt g hg).1; omega)
      have q0 := bx3.cell 1
      have q1 := bx3.frozen 1
      obtain ⟨A3, c3, ha3⟩ := ht.at_
      go_wp2_with fail
      clear q0 q1 bx3
      generalize w3.setCell ⟨w.heap.size, 1, none⟩ (.slice A4 l4.length c4) = W at *
      refine (fault_any eb Y A3 c3 l2 0 _ ha3).mono ?_
      rintro e w4 ⟨rfl, rfl⟩
      have d0 : W.cell? ⟨w.heap.size, 0, none⟩ = some (.int .i64 1) := bxW.cell 0
      have d1 : W.cell? ⟨w.heap.size, 1, none⟩ = some (.slice A4 l4.length c4) := bxW.cell 1
      have g0 := bxW.frozen 0
      have g1 := bxW.frozen 1
      go_wp2_with fail
      obtain ⟨bxV, hfV⟩ := Blk.two (x' := .int .i64 1) (y' := .slice A4 l4.length c4) bxW
      have htV := ht.side hfV (Nat.le_refl _) (by omega) hzw
      have hoV := ho.past bxW (by decide) hfV
      generalize (W.setCell ⟨w.heap.size, 0, none⟩ (.int .i64 1)).setCell ⟨w.heap.size, 1, none⟩ (.slice A4 l4.length c4) = V at *
      have x0 : V.cell? ⟨w.heap.size, 0, none⟩ = some (.int .i64 1) := bxV.cell 0
      have x1 : V.cell? ⟨w.heap.size, 1, none⟩ = some (.slice A4 l4.length c4) := bxV.cell 1
      refine bodyPost_ret (v := .agg #[.int .i64 1, .slice A4 l4.length c4]) (by simp [results, Try.results21, go_sem, x0, x1]) rfl ?_
      exact ⟨A4, c4, l4, rfl, hl4, hoV, htV⟩
    · rw [if_pos hf]
      have hfb : (f2 != 0) = true := by simpa using hf
      go_enter Try.func21, Try.ntmps21
      go_wp2_with fail
      have bx0 := Blk.new w 24 #[.int .i64 0, .slice none 0 0]
      have hlow0 : Below w.heap.size w (w.alloc (.cells #[.int .i64 0, .slice none 0 0] 24)) := (Below.refl _ _).alloc (Nat.le_refl _) _
      refine (HN.out _ (h.below hlow0)).mono ?_
      rintro e w1 ⟨rfl, h1⟩
      dsimp only at h1
      have hs1 := h1.fr.size
      simp at hs1
      have bx1 : Blk w1 w.heap.size 24 #[.int .i64 0, .slice none 0 0] := bx0.fr h1.fr (by omega)
      have ht1 := EyeTo.after hlow0 h1
      have bx2 : Blk (w1.setCell ⟨w.heap.size, 0, none⟩ (.int .i64 1)) w.heap.size 24 #[.int .i64 1, .slice none 0 0] := by simpa using bx1.set_ 0 (.int .i64 1)
      have hf2 : Fr (fun x => x = w.heap.size) w1 (w1.setCell ⟨w.heap.size, 0, none⟩ (.int .i64 1)) := (Fr.refl (fun x => x = w.heap.size) w1).setAt w.heap.size 0 rfl _
      have ht2 := ht1.side hf2 (Nat.le_refl _) (by omega) hzw
      have hs2 := hf2.size
      have q0 := bx1.cell 0
      have q1 := bx1.frozen 0
      have r0 : (w1.setCell ⟨w.heap.size, 0, none⟩ (.int .i64 1)).cell? ⟨w.heap.size, 0, none⟩ = some (.int .i64 1) := bx2.cell 0
      obtain ⟨A2, c2, ha2⟩ := ht2.at_
      clear h1 ht1 hf2 bx0 hlow0 HN
      go_wp2_with fail
      clear r0 q0 q1 bx1
      generalize w1.setCell ⟨w.heap.size, 0, none⟩ (.int .i64 1) = W1 at *
      refine (HTX.out W1 A2 c2 ha2).mono ?_
      rintro e w3 ⟨A4, c4, l4, rfl, hl4, ho4, ht4⟩
      have ht3 := ht2.trans ht4
      have bx3 : Blk w3 w.heap.size 24 #[.int .i64 1, .slice none 0 0] := bx2.fr ht4.fr (by omega)
      have bxW : Blk (w3.setCell ⟨w.heap.size, 1, none⟩ (.slice A4 l4.length c4)) w.heap.size 24 #[.int .i64 1, .slice A4 l4.length c4] := by simpa using bx3.set_ 1 (.slice A4 l4.length c4)
      have hfW : Fr (fun x => x = w.heap.size) w3 (w3.setCell ⟨w.heap.size, 1, none⟩ (.slice A4 l4.length c4)) := (Fr.refl (fun x => x = w.heap.size) w3).setAt w.heap.size 1 rfl _
      have hsW := bx2.lt
      have ht := ht3.side hfW (Nat.le_refl _) (by omega) hzw
      have ho : OwB (w3.setCell ⟨w.heap.size, 1, none⟩ (.slice A4 l4.length c4)) w.heap.size (.slice A4 l4.length c4) l4 := own_base (ho4.fr hfW (fun g hg e => by have := (ho4.lt g hg).1; omega)) (fun g hg => by have := (ho4.lt g hg).1; omega)
      have q0 := bx3.cell 1
      have q1 := bx3.frozen 1
      obtain ⟨A3, c3, ha3⟩ := ht.at_
      go_wp2_with fail
      clear q0 q1 bx3
      generalize w3.setCell ⟨w.heap.size, 1, none⟩ (.slice A4 l4.length c4) = W at *
      refine (fault_any eb Y A3 c3 l2 f2 _ ha3).mono ?_
      rintro e w4 ⟨rfl, rfl⟩
      have d0 := bxW.cell 0
      have d1 := bxW.cell 1
      have g0 := bxW.frozen 0
      have g1 := bxW.frozen 1
      go_wp2_with fail
      obtain ⟨bxV, hfV⟩ := Blk.two (x' := .int .i64 0) (y' := .slice none 0 0) bxW
      have htV := ht.side hfV (Nat.le_refl _) (by omega) hzw
      generalize (W.setCell ⟨w.heap.size, 0, none⟩ (.int .i64 0)).setCell ⟨w.heap.size, 1, none⟩ (.slice none 0 0) = V at *
      have x0 : V.cell? ⟨w.heap.size, 0, none⟩ = some (.int .i64 0) := bxV.cell 0
      have x1 : V.cell? ⟨w.heap.size, 1, none⟩ = some (.slice none 0 0) := bxV.cell 1
      refine bodyPost_ret (v := .agg #[.int .i64 0, .slice none 0 0]) (by simp [results, Try.results21, go_sem, x0, x1]) rfl ?_
      exact ⟨none, 0, [], rfl, rfl, OwB.nil _ _, htV⟩
  · rw [if_neg hn1]
    have hn1b : ((n : Int) == 1) = false := by rw [beq_eq_false_iff_ne]; omega
    dsimp only
    by_cases hf : f1 = 0
    · subst hf
      rw [if_neg (by simp)]
      go_enter Try.func21, Try.ntmps21
      go_wp2_with fail
      have bx0 := Blk.new w 24 #[.int .i64 0, .slice none 0 0]
      have hlow0 : Below w.heap.size w (w.alloc (.cells #[.int .i64 0, .slice none 0 0] 24)) := (Below.refl _ _).alloc (Nat.le_refl _) _
      refine (HN.out _ (h.below hlow0)).mono ?_
      rintro e w1 ⟨rfl, h1⟩
      dsimp only at h1
      have hs1 := h1.fr.size
      simp at hs1
      have bx1 : Blk w1 w.heap.size 24 #[.int .i64 0, .slice none 0 0] := bx0.fr h1.fr (by omega)
      have ht1 := EyeTo.after hlow0 h1
      have bx2 : Blk (w1.setCell ⟨w.heap.size, 0, none⟩ (.int .i64 n)) w.heap.size 24 #[.int .i64 n, .slice none 0 0] := by simpa using bx1.set_ 0 (.int .i64 n)
      have hf2 : Fr (fun x => x = w.heap.size) w1 (w1.setCell ⟨w.heap.size, 0, none⟩ (.int .i64 n)) := (Fr.refl (fun x => x = w.heap.size) w1).setAt w.heap.size 0 rfl _
      have ht2 := ht1.side hf2 (Nat.le_refl _) (by omega) hzw
      have hs2 := hf2.size
      have q0 := bx1.cell 0
      have q1 := bx1.frozen 0
      have r0 : (w1.setCell ⟨w.heap.size, 0, none⟩ (.int .i64 n)).cell? ⟨w.heap.size, 0, none⟩ = some (.int .i64 n) := bx2.cell 0
      obtain ⟨A2, c2, ha2⟩ := ht2.at_
      clear h1 ht1 hf2 bx0 hlow0 HN
      go_wp2_with fail
      clear r0 q0 q1 bx1
      generalize w1.setCell ⟨w.heap.size, 0, none⟩ (.int .i64 n) = W at *
      have bxW := bx2
      have ht := ht2
      refine (fault_any eb Y A2 c2 l1 0 _ ha2).mono ?_
      rintro e w4 ⟨rfl, rfl⟩
      have d0 : W.cell? ⟨w.heap.size, 0, none⟩ = some (.int .i64 n) := bxW.cell 0
      have d1 : W.cell? ⟨w.heap.size, 1, none⟩ = some (.slice none 0 0) := bxW.cell 1
      have g0 := bxW.frozen 0
      have g1 := bxW.frozen 1
      go_wp2_with fail
      obtain ⟨bxV, hfV⟩ := Blk.two (x' := .int .i64 n) (y' := .slice none 0 0) bxW
      have htV := ht.side hfV (Nat.le_refl _) (by omega) hzw
      generalize (W.setCell ⟨w.heap.size, 0, none⟩ (.int .i64 n)).setCell ⟨w.heap.size, 1, none⟩ (.slice none 0 0) = V at *
      have x0 : V.cell? ⟨w.heap.size, 0, none⟩ = some (.int .i64 n) := bxV.cell 0
      have x1 : V.cell? ⟨w.heap.size, 1, none⟩ = some (.slice none 0 0) := bxV.cell 1
      refine bodyPost_ret (v := .agg #[.int .i64 n, .slice none 0 0]) (by simp [results, Try.results21, go_sem, x0, x1]) rfl ?_
      exact ⟨none, 0, [], rfl, rfl, OwB.nil _ _, htV⟩
    · rw [if_pos hf]
      have hfb : (f1 != 0) = true := by simpa using hf
      go_enter Try.func21, Try.ntmps21
      go_wp2_with fail
      have bx0 := Blk.new w 24 #[.int .i64 0, .slice none 0 0]
      have hlow0 : Below w.heap.size w (w.alloc (.cells #[.int .i64 0, .slice none 0 0] 24)) := (Below.refl _ _).alloc (Nat.le_refl _) _
      refine (HN.out _ (h.below hlow0)).mono ?_
      rintro e w1 ⟨rfl, h1⟩
      dsimp only at h1
      have hs1 := h1.fr.size
      simp at hs1
      have bx1 : Blk w1 w.heap.size 24 #[.int .i64 0, .slice none 0 0] := bx0.fr h1.fr (by omega)
      have ht1 := EyeTo.after hlow0 h1
      have bx2 : Blk (w1.setCell ⟨w.heap.size, 0, none⟩ (.int .i64 n)) w.heap.size 24 #[.int .i64 n, .slice none 0 0] := by simpa using bx1.set_ 0 (.int .i64 n)
      have hf2 : Fr (fun x => x = w.heap.size) w1 (w1.setCell ⟨w.heap.size, 0, none⟩ (.int .i64 n)) := (Fr.refl (fun x => x = w.heap.size) w1).setAt w.heap.size 0 rfl _
      have ht2 := ht1.side hf2 (Nat.le_refl _) (by omega) hzw
      have hs2 := hf2.size
      have q0 := bx1.cell 0
      have q1 := bx1.frozen 0
      have r0 : (w1.setCell ⟨w.heap.size, 0, none⟩ (.int .i64 n)).cell? ⟨w.heap.size, 0, none⟩ = some (.int .i64 n) := bx2.cell 0
      obtain ⟨A2, c2, ha2⟩ := ht2.at_
      clear h1 ht1 hf2 bx0 hlow0 HN
      go_wp2_with fail
      clear r0 q0 q1 bx1
      generalize w1.setCell ⟨w.heap.size, 0, none⟩ (.int .i64 n) = W at *
      have bxW := bx2
      have ht := ht2
      refine (fault_any eb Y A2 c2 l1 f1 _ ha2).mono ?_
      rintro e w4 ⟨rfl, rfl⟩
      have d0 := bxW.cell 0
      have d1 := bxW.cell 1
      have g0 := bxW.frozen 0
      have g1 := bxW.frozen 1
      go_wp2_with fail
      obtain ⟨bxV, hfV⟩ := Blk.two (x' := .int .i64 0) (y' := .slice none 0 0) bxW
      have htV := ht.side hfV (Nat.le_refl _) (by omega) hzw
      generalize (W.setCell ⟨w.heap.size, 0, none⟩ (.int .i64 0)).setCell ⟨w.heap.size, 1, none⟩ (.slice none 0 0) = V at *
      have x0 : V.cell? ⟨w.heap.size, 0, none⟩ = some (.int .i64 0) := bxV.cell 0
      have x1 : V.cell? ⟨w.heap.size, 1, none⟩ = some (.slice none 0 0) := bxV.cell 1
      refine bodyPost_ret (v := .agg #[.int .i64 0, .slice none 0 0]) (by simp [results, Try.results21, go_sem, x0, x1]) rfl ?_
      exact ⟨none, 0, [], rfl, rfl, OwB.nil _ _, htV⟩
end Go.Proofs.Ytofllgmieciakab
