/- tenderref41.Read: the document's acts of bytes. -/
import Derived.Test.YtpbgcbpofhbgbaaScriptReadP
import Derived.Test.YtpbgcbpofhbgbaaEyeCloseR
import Derived.Deep.DeepCutAuto
import Derived.Deep.CutBlock
namespace Go.Proofs.Ytpbgcbpofhbgbaa
open Go.RowKit

theorem Row.ne_row {w : World} {base base' size size' n n' c c' : Nat} {e e' : TypeId} {A A' : Option Addr} {xs xs' : List Value} (h : Row w base e size A n c xs) (h' : Row w base' e' size' A' n' c' xs') (hne : e ≠ e') : ∀ g, ablk A = some g → ablk A' ≠ some g := by
  intro g hg hg'
  rcases A' with _ | a'
  · cases hg'
  · obtain ⟨g2, off, cur, e1, _, hk, _⟩ := h'.at_ a' rfl
    subst e1
    injection hg' with hg'
    have hg2 : g2 = g := hg'
    subst hg2
    exact h.ne_blk hk hne hg

set_option maxRecDepth 100000 in
set_option maxHeartbeats 8000000 in
theorem readR_any (x : BV) (w : World) (h : x.ok w (fun b => b < w.heap.size)) (hl : x.l.length ≤ 140737488355328) :
    Calls Try.prog 31 #[x.v] w fun e w' => ∃ (A : Option Addr) (c : Nat) (s : List AV) (g : Int), e = .returned (.tuple #[.slice A s.length c, .int .i64 g]) ∧ RdP x.l (s.map AV.a) g ∧ Acts w' (fun _ => True) A s ∧ Below w.heap.size w w' := by
  obtain ⟨xA, xc, l⟩ := x
  obtain ⟨hy, hlc, hcm⟩ := h
  dsimp only at *
  unfold BV.v
  dsimp only
  obtain ⟨nn, LL, ff, ee⟩ : ∃ n L g, intS l 0 65536 = (n, L, g) := ⟨_, _, _, rfl⟩
  have hnn := intS_lt (m := 65536) ee
  obtain ⟨i0, hi0, hz0, hz1, hz2⟩ := info_parts act_info
  have ha0 := EyeAt.new w (T := 109) hy hlc hcm
  have hb0 : Below w.heap.size w (w.alloc (.cells #[.slice xA l.length xc, .int .i64 0] 109)) := (by repeat (first | exact Below.refl _ _ | refine Below.alloc ?_ (by simp) _ | refine Below.setCell ?_ (by simp) _ | refine Below.drew ?_))
  have hs0 : (w.alloc (.cells #[.slice xA l.length xc, .int .i64 0] 109)).heap.size = w.heap.size + 1 := World.size_alloc _ _
  have hzz : ¬ (fun b => b < w.heap.size) w.heap.size := by simp
  go_enter Try.func31, Try.ntmps31
  go_wp2_with fail
  generalize w.alloc (.cells #[.slice xA l.length xc, .int .i64 0] 109) = W at *
  have H1 := Lib.hid (intR_any w.heap.size (fun b => b < w.heap.size) xA xc l 0 65536 W ha0 hzz (by omega))
  rw [ee] at H1
  refine H1.out.mono ?_
  rintro e w1 ⟨rfl, h1⟩
  (try dsimp only at h1)
  clear H1
  go_wp2_with fail
  go_loopw [5, 7] (fun ov iv wr => ∃ (s : List AV) (B : Option Addr) (d i : Nat) (L : List UInt8) (g : Int), ov = .slice B s.length d ∧ iv = .int .i64 (i : Int) ∧ i ≤ nn ∧ ActRow wr (w.heap.size + 1) (fun b => b ≠ w.heap.size) B d s ∧ EyeTo W 109 w.heap.size (fun b => b < w.heap.size) L g wr ∧ Hid (∀ t L' g', RdN (nn - i) L g t L' g' → RdN nn LL ff (s.map AV.a ++ t) L' g') ∧ Hid (s.length = i) ∧ L.length ≤ l.length) (fun _ iv _ => nn - (intOf iv).toNat)
  case atStart => exact ⟨[], none, 0, 0, LL, ff, rfl, rfl, Nat.zero_le _, ActRow.none_ _ _ _, h1, fun t L' g' h => h, rfl, hnn.2⟩
  case round =>
    obtain ⟨s, B, d, i, L, g, rfl, rfl, hi, hrow, hE, hL, hj, hLl⟩ := hrel
    obtain ⟨AE, cE, hA⟩ := hE.at_
    have hBl := hrow.row.lt
    have hsb : s.length ≤ 65536 := by have := hj.out; omega
    have hsz := hE.fr.size
    have hlt := hA.1.lt
    have hfin : Hid (RdN (nn - i) L g [] L g → RdP l ((if closeS L g ≠ 0 then [] else s).map AV.a) (closeS L g)) := fun h => ⟨nn, LL, L, ff, g, s.map AV.a, ee, by have := hL.out [] L g h; simpa using this, rfl, by split <;> rfl⟩
    have hbw : Below w.heap.size w wr := hb0.trans (hE.fr.below (by omega) (fun k hk e => by omega))
    have hC := Lib.hid (closeR_any w.heap.size (fun b => b < w.heap.size) AE cE L g wr hA)
    have k1 := hA.c1
    by_cases hin : i < nn
    · by_cases hg : g = 0
      · subst hg
        clear hfin hC
        obtain ⟨n0, L0, f0, e0⟩ : ∃ n L' g, intS L 0 12 = (n, L', g) := ⟨_, _, _, rfl⟩
        obtain ⟨M0, g0, eg⟩ : ∃ L g, (if n0 = 0 then failS L0 f0 2 else (L0, f0)) = (L, g) := ⟨_, _, rfl⟩
        obtain ⟨n1, L1, f1, e1⟩ : ∃ n L g, intS M0 g0 2 = (n, L, g) := ⟨_, _, _, rfl⟩
        obtain ⟨n2, L2, f2, e2⟩ : ∃ n L g, intS L1 f1 1048577 = (n, L, g) := ⟨_, _, _, rfl⟩
        obtain ⟨n3, L3, f3, e3⟩ : ∃ n L g, intS L2 f2 1048577 = (n, L, g) := ⟨_, _, _, rfl⟩
        obtain ⟨n4, L4, f4, e4⟩ : ∃ n L g, readS L3 f3 4294967295 = (n, L, g) := ⟨_, _, _, rfl⟩
        obtain ⟨n5, L5, f5, e5⟩ : ∃ n L g, intS L4 f4 5 = (n, L, g) := ⟨_, _, _, rfl⟩
        obtain ⟨t6, L6, f6, e6⟩ : ∃ n L g, textS L5 f5 96 = (n, L, g) := ⟨_, _, _, rfl⟩
        obtain ⟨t7, L7, f7, e7⟩ : ∃ n L g, textS L6 f6 96 = (n, L, g) := ⟨_, _, _, rfl⟩
        obtain ⟨t8, L8, f8, e8⟩ : ∃ n L g, textS L7 f7 4096 = (n, L, g) := ⟨_, _, _, rfl⟩
        obtain ⟨kl, L9, f9, e9⟩ : ∃ n L g, listS keepS L8 f8 = (n, L, g) := ⟨_, _, _, rfl⟩
        obtain ⟨cl, L10, f10, e10⟩ : ∃ n L g, listS choS L9 f9 = (n, L, g) := ⟨_, _, _, rfl⟩
        have hR : RdA L 0 { k := (n0 : Int), s := (n1 : Int), n := (n2 : Int) - 1, b := (n3 : Int) - 1, m := (n4 : Int), ek := (n5 : Int), p := ⟨t6.toArray⟩, t := ⟨t7.toArray⟩, x := t8, kl := kl, cl := cl } L10 f10 :=
          ⟨n0, n1, n2, n3, n4, n5, t6, t7, t8, kl, cl, L0, M0, L1, L2, L3, L4, L5, L6, L7, L8, L9, f0, g0, f1, f2, f3, f4, f5, f6, f7, f8, f9, e0, eg, e1, e2, e3, e4, e5, e6, e7, e8, e9, e10, rfl⟩
        have hfit := Lib.hid (hR.fit (by omega))
        have HR := Lib.hid hR
        clear hR
        have q0 := (intS_lt (m := 12) e0).1
        have q2 := (intS_lt (m := 1048577) e2).1
        have q3 := (intS_lt (m := 1048577) e3).1
        have q4 := (readS_lt e4).1
        have hw2 : IntKind.i64.wrap ((n2 : Int) - 1) = (n2 : Int) - 1 := IntWalk.i64_in _ (by omega)
        have hw3 : IntKind.i64.wrap ((n3 : Int) - 1) = (n3 : Int) - 1 := IntWalk.i64_in _ (by omega)
        have hw4 : IntKind.u32.wrap (n4 : Int) = (n4 : Int) := IntWalk.u32_in _ (by omega)
        obtain ⟨nk, Lk, gk, ek⟩ : ∃ n L g, intS L8 f8 8 = (n, L, g) := ⟨_, _, _, rfl⟩
        obtain ⟨nc, Lc, gc, ec⟩ : ∃ n L g, intS L9 f9 8 = (n, L, g) := ⟨_, _, _, rfl⟩
        unfold listS at e9 e10
        rw [ek] at e9
        rw [ec] at e10
        dsimp only at e9 e10
        have qk : nk ≤ 8 := (intS_lt (m := 8) ek).1
        have qc : nc ≤ 8 := (intS_lt (m := 8) ec).1
        have HK := Lib.hid e9
        have HCH := Lib.hid e10
        clear e9 e10
        have H0 := Lib.hid (fun W A c h => intR_any w.heap.size (fun b => b < w.heap.size) A c L 0 12 W h hzz (by omega))
        rw [e0] at H0
        have H1 := Lib.hid (fun W A c h => intR_any w.heap.size (fun b => b < w.heap.size) A c M0 g0 2 W h hzz (by omega))
        rw [e1] at H1
        have H2 := Lib.hid (fun W A c h => intR_any w.heap.size (fun b => b < w.heap.size) A c L1 f1 1048577 W h hzz (by omega))
        rw [e2] at H2
        have H3 := Lib.hid (fun W A c h => intR_any w.heap.size (fun b => b < w.heap.size) A c L2 f2 1048577 W h hzz (by omega))
        rw [e3] at H3
        have H4 := Lib.hid (fun W A c h => eyeRead_any w.heap.size (fun b => b < w.heap.size) A c L3 f3 4294967295 W h hzz)
        rw [e4] at H4
        have H5 := Lib.hid (fun W A c h => intR_any w.heap.size (fun b => b < w.heap.size) A c L4 f4 5 W h hzz (by omega))
        rw [e5] at H5
        have H6 := Lib.hid (fun W A c h => textR_any w.heap.size (fun b => b < w.heap.size) A c L5 f5 96 W h hzz (by omega))
        rw [e6] at H6
        have H7 := Lib.hid (fun W A c h => textR_any w.heap.size (fun b => b < w.heap.size) A c L6 f6 96 W h hzz (by omega))
        rw [e7] at H7
        have H8 := Lib.hid (fun W A c h => textR_any w.heap.size (fun b => b < w.heap.size) A c L7 f7 4096 W h hzz (by omega))
        rw [e8] at H8
        have H9 := Lib.hid (fun W A c h => intR_any w.heap.size (fun b => b < w.heap.size) A c L8 f8 8 W h hzz (by omega))
        rw [ek] at H9
        have H10 := Lib.hid (fun W A c h => intR_any w.heap.size (fun b => b < w.heap.size) A c L9 f9 8 W h hzz (by omega))
        rw [ec] at H10
        have HFL := Lib.hid (fun W A c h => failR_any w.heap.size (fun b => b < w.heap.size) A c L0 f0 2 W h)
        clear e0 e1 e2 e3 e4 e5 e6 e7 e8 ek ec
        obtain ⟨wq, rfl⟩ : ∃ wq : World, wq = wr := ⟨_, rfl⟩
        have hbq : Below wq.heap.size wq (wq.alloc (.cells #[.int .i64 0, .int .i64 0, .int .i64 0, .int .i64 0, .int .u32 0, .int .i64 0, .string ⟨#[]⟩, .string ⟨#[]⟩, .slice none 0 0, .slice none 0 0, .slice none 0 0] 57)) := (by repeat (first | exact Below.refl _ _ | refine Below.alloc ?_ (by simp) _ | refine Below.setCell ?_ (by simp) _ | refine Below.drew ?_))
        have bx0 := Blk.new wq 57 #[.int .i64 0, .int .i64 0, .int .i64 0, .int .i64 0, .int .u32 0, .int .i64 0, .string ⟨#[]⟩, .string ⟨#[]⟩, .slice none 0 0, .slice none 0 0, .slice none 0 0]
        have hzw : ∀ x, (fun b => b < w.heap.size) x → x ≠ wq.heap.size := fun x hx e => by simp at hx; omega
        go_wp2_with fail
        generalize wq.alloc (.cells #[.int .i64 0, .int .i64 0, .int .i64 0, .int .i64 0, .int .u32 0, .int .i64 0, .string ⟨#[]⟩, .string ⟨#[]⟩, .slice none 0 0, .slice none 0 0, .slice none 0 0] 57) = V0 at *
        have ht0 : EyeTo wq 109 w.heap.size (fun b => b < w.heap.size) L 0 V0 := ⟨⟨AE, cE, hA.below hbq⟩, Fr.of_below hbq _⟩
        by_cases hf0 : f0 = 0
        · subst hf0
          by_cases hn0 : n0 = 0
          · subst hn0
            rw [if_pos rfl] at eg
            obtain ⟨A0_, c0_, ha0⟩ := ht0.at_
            refine (H0.out _ A0_ c0_ ha0).mono ?_
            rintro e w1 ⟨rfl, h1⟩
            (try dsimp only at h1)
            have bx1' := bx0.fr h1.fr (by omega)
            have qq : w1.cell? ⟨wq.heap.size, 0, none⟩ = some (.int .i64 0) := bx1'.cell 0
            have zz := bx1'.frozen 0
            obtain ⟨hA1, cA1, haa⟩ := h1.at_
            have e_ := haa.c1
            go_wp2_with fail
            obtain ⟨ht1, bx1, hf_⟩ := box_set (o := 0) (ht0.trans h1) bx1' (Nat.le_refl _) (by omega) hzw (.int .i64 0)
            simp only [List.setIfInBounds_toArray, List.set_cons_zero] at bx1
            clear qq zz hf_ bx0 bx1' h1 ht0 H0 ha0 haa e_
            generalize w1.setCell ⟨wq.heap.size, 0, none⟩ (.int .i64 0) = V1 at *
            obtain ⟨A1_, c1_, ha1⟩ := ht1.at_
            refine (HFL.out _ A1_ c1_ ha1).mono ?_
            rintro e w2 ⟨rfl, h2⟩
            rw [eg] at h2
            (try dsimp only at h2)
            have bx2 := bx1.fr h2.fr (by omega)
            have ht2 := ht1.trans h2
            clear bx1 ht1 ha1 h2
            go_wp2_with fail
            obtain ⟨V2, rfl⟩ : ∃ V2 : World, V2 = w2 := ⟨_, rfl⟩
            obtain ⟨A2_, c2_, ha2⟩ := ht2.at_
            refine (H1.out _ A2_ c2_ ha2).mono ?_
            rintro e w3 ⟨rfl, h3⟩
            (try dsimp only at h3)
            have bx3' := bx2.fr h3.fr (by omega)
            have qq : w3.cell? ⟨wq.heap.size, 1, none⟩ = some (.int .i64 0) := bx3'.cell 1
            have zz := bx3'.frozen 1
            go_wp2_with fail
            obtain ⟨ht3, bx3, hf_⟩ := box_set (o := 1) (ht2.trans h3) bx3' (Nat.le_refl _) (by omega) hzw (.int .i64 (n1 : Int))
            simp only [List.setIfInBounds_toArray, List.set_cons_zero, List.set_cons_succ] at bx3
            clear qq zz hf_ bx2 bx3' h3 ht2 H1 ha2
            generalize w3.setCell ⟨wq.heap.size, 1, none⟩ (.int .i64 (n1 : Int)) = V3 at *
            obtain ⟨A3_, c3_, ha3⟩ := ht3.at_
            refine (H2.out _ A3_ c3_ ha3).mono ?_
            rintro e w4 ⟨rfl, h4⟩
            (try dsimp only at h4)
            have bx4' := bx3.fr h4.fr (by omega)
            have qq : w4.cell? ⟨wq.heap.size, 2, none⟩ = some (.int .i64 0) := bx4'.cell 2
            have zz := bx4'.frozen 2
            go_wp2_with fail
            obtain ⟨ht4, bx4, hf_⟩ := box_set (o := 2) (ht3.trans h4) bx4' (Nat.le_refl _) (by omega) hzw (.int .i64 ((n2 : Int) - 1))
            simp only [List.setIfInBounds_toArray, List.set_cons_zero, List.set_cons_succ] at bx4
            clear qq zz hf_ bx3 bx4' h4 ht3 H2 ha3
            generalize w4.setCell ⟨wq.heap.size, 2, none⟩ (.int .i64 ((n2 : Int) - 1)) = V4 at *
            obtain ⟨A4_, c4_, ha4⟩ := ht4.at_
            refine (H3.out _ A4_ c4_ ha4).mono ?_
            rintro e w5 ⟨rfl, h5⟩
            (try dsimp only at h5)
            have bx5' := bx4.fr h5.fr (by omega)
            have qq : w5.cell? ⟨wq.heap.size, 3, none⟩ = some (.int .i64 0) := bx5'.cell 3
            have zz := bx5'.frozen 3
            go_wp2_with fail
            obtain ⟨ht5, bx5, hf_⟩ := box_set (o := 3) (ht4.trans h5) bx5' (Nat.le_refl _) (by omega) hzw (.int .i64 ((n3 : Int) - 1))
            simp only [List.setIfInBounds_toArray, List.set_cons_zero, List.set_cons_succ] at bx5
            clear qq zz hf_ bx4 bx5' h5 ht4 H3 ha4
            generalize w5.setCell ⟨wq.heap.size, 3, none⟩ (.int .i64 ((n3 : Int) - 1)) = V5 at *
            obtain ⟨A5_, c5_, ha5⟩ := ht5.at_
            refine (H4.out _ A5_ c5_ ha5).mono ?_
            rintro e w6 ⟨rfl, h6⟩
            (try dsimp only at h6)
            have bx6' := bx5.fr h6.fr (by omega)
            have qq : w6.cell? ⟨wq.heap.size, 4, none⟩ = some (.int .u32 0) := bx6'.cell 4
            have zz := bx6'.frozen 4
            go_wp2_with fail
            obtain ⟨ht6, bx6, hf_⟩ := box_set (o := 4) (ht5.trans h6) bx6' (Nat.le_refl _) (by omega) hzw (.int .u32 (n4 : Int))
            simp only [List.setIfInBounds_toArray, List.set_cons_zero, List.set_cons_succ] at bx6
            clear qq zz hf_ bx5 bx6' h6 ht5 H4 ha5
            generalize w6.setCell ⟨wq.heap.size, 4, none⟩ (.int .u32 (n4 : Int)) = V6 at *
            obtain ⟨A6_, c6_, ha6⟩ := ht6.at_
            refine (H5.out _ A6_ c6_ ha6).mono ?_
            rintro e w7 ⟨rfl, h7⟩
            (try dsimp only at h7)
            have bx7' := bx6.fr h7.fr (by omega)
            have qq : w7.cell? ⟨wq.heap.size, 5, none⟩ = some (.int .i64 0) := bx7'.cell 5
            have zz := bx7'.frozen 5
            go_wp2_with fail
            obtain ⟨ht7, bx7, hf_⟩ := box_set (o := 5) (ht6.trans h7) bx7' (Nat.le_refl _) (by omega) hzw (.int .i64 (n5 : Int))
            simp only [List.setIfInBounds_toArray, List.set_cons_zero, List.set_cons_succ] at bx7
            clear qq zz hf_ bx6 bx7' h7 ht6 H5 ha6
            generalize w7.setCell ⟨wq.heap.size, 5, none⟩ (.int .i64 (n5 : Int)) = V7 at *
            obtain ⟨A7_, c7_, ha7⟩ := ht7.at_
            refine (H6.out _ A7_ c7_ ha7).mono ?_
            rintro e w8 ⟨A_, n_, c_, rfl, hn_, hr_, _, _, h8⟩
            (try dsimp only at h8 hr_)
            obtain rfl : n_ = t6.length := hn_.out
            have k_ := conv_by hr_ c_
            have bx8' := bx7.fr h8.fr (by omega)
            have qq : w8.cell? ⟨wq.heap.size, 6, none⟩ = some (.string ⟨#[]⟩) := bx8'.cell 6
            have zz := bx8'.frozen 6
            go_wp2_with fail
            obtain ⟨ht8, bx8, hf_⟩ := box_set (o := 6) (ht7.trans h8) bx8' (Nat.le_refl _) (by omega) hzw (.string ⟨t6.toArray⟩)
            simp only [List.setIfInBounds_toArray, List.set_cons_zero, List.set_cons_succ] at bx8
            clear qq zz hf_ bx7 bx8' h8 ht7 H6 ha7 hr_ k_ hn_
            generalize w8.setCell ⟨wq.heap.size, 6, none⟩ (.string ⟨t6.toArray⟩) = V8 at *
            obtain ⟨A8_, c8_, ha8⟩ := ht8.at_
            refine (H7.out _ A8_ c8_ ha8).mono ?_
            rintro e w9 ⟨A_, n_, c_, rfl, hn_, hr_, _, _, h9⟩
            (try dsimp only at h9 hr_)
            obtain rfl : n_ = t7.length := hn_.out
            have k_ := conv_by hr_ c_
            have bx9' := bx8.fr h9.fr (by omega)
            have qq : w9.cell? ⟨wq.heap.size, 7, none⟩ = some (.string ⟨#[]⟩) := bx9'.cell 7
            have zz := bx9'.frozen 7
            go_wp2_with fail
            obtain ⟨ht9, bx9, hf_⟩ := box_set (o := 7) (ht8.trans h9) bx9' (Nat.le_refl _) (by omega) hzw (.string ⟨t7.toArray⟩)
            simp only [List.setIfInBounds_toArray, List.set_cons_zero, List.set_cons_succ] at bx9
            clear qq zz hf_ bx8 bx9' h9 ht8 H7 ha8 hr_ k_ hn_
            generalize w9.setCell ⟨wq.heap.size, 7, none⟩ (.string ⟨t7.toArray⟩) = V9 at *
            obtain ⟨A9_, c9_, ha9⟩ := ht9.at_
            refine (H8.out _ A9_ c9_ ha9).mono ?_
            rintro e w10 ⟨A8, n_, c8, rfl, hn_, hr_, _, _, h10⟩
            (try dsimp only at h10 hr_)
            obtain rfl : n_ = t8.length := hn_.out
            have hy10 : By w10 (fun b => b < w.heap.size) A8 t8 := hr_
            have bx10' := bx9.fr h10.fr (by omega)
            have qq : w10.cell? ⟨wq.heap.size, 8, none⟩ = some (.slice none 0 0) := bx10'.cell 8
            have zz := bx10'.frozen 8
            go_wp2_with fail
            obtain ⟨ht10, bx10, hf_⟩ := box_set (o := 8) (ht9.trans h10) bx10' (Nat.le_refl _) (by omega) hzw (.slice A8 t8.length c8)
            simp only [List.setIfInBounds_toArray, List.set_cons_zero, List.set_cons_succ] at bx10
            replace hy10 := hy10.fr hf_ (fun b _ hb e => by (try simp at hb); omega)
            clear qq zz hf_ bx9 bx10' h10 ht9 H8 ha9 hr_ hn_
            generalize w10.setCell ⟨wq.heap.size, 8, none⟩ (.slice A8 t8.length c8) = V10 at *
            obtain ⟨A_, c_, ha_⟩ := ht10.at_
            refine (H9.out _ A_ c_ ha_).mono ?_
            rintro e w9 ⟨rfl, h9⟩
            (try dsimp only at h9)
            have bxK := bx10.fr h9.fr (by omega)
            have htK := ht10.trans h9
            have hyK := hy10.fr h9.fr (fun b _ hb e => by (try simp at hb); omega)
            clear bx10 ht10 hy10 h9 H9 ha_
            go_wp2_with fail
            go_loopw [10] (fun kv wx => ∃ (sk : List KV) (Bk : Option Addr) (dk k : Nat) (Lx : List UInt8) (gx : Int), kv = .int .i64 (k : Int) ∧ k ≤ nk ∧ Hid (sk.length = k) ∧ Hid (listN keepS nk Lk gk = (sk ++ (listN keepS (nk - k) Lx gx).1, (listN keepS (nk - k) Lx gx).2)) ∧ EyeTo wq 109 w.heap.size (fun b => b < w.heap.size) Lx gx wx ∧ Blk wx wq.heap.size 57 #[.int .i64 0, .int .i64 (n1 : Int), .int .i64 ((n2 : Int) - 1), .int .i64 ((n3 : Int) - 1), .int .u32 (n4 : Int), .int .i64 (n5 : Int), .string ⟨t6.toArray⟩, .string ⟨t7.toArray⟩, .slice A8 t8.length c8, .slice Bk sk.length dk, .slice none 0 0] ∧ Row wx (wq.heap.size + 1) 91 2 Bk sk.length dk (sk.flatMap KV.cells) ∧ By wx (fun b => b < w.heap.size) A8 t8) (fun kv _ => nk - (intOf kv).toNat)
            case atStart => exact ⟨[], none, 0, 0, Lk, gk, rfl, Nat.zero_le _, rfl, by show _ = _; simp, htK, bxK, Row.none_ _ _ _ _, hyK⟩
            case round =>
              obtain ⟨sk, Bk, dk, k, Lx, gx, rfl, hk, hsl, hLx, htx, bxx, hrow_, hyx⟩ := hrel
              obtain ⟨wx, rfl⟩ : ∃ wx : World, wx = wr := ⟨_, rfl⟩
              obtain ⟨Ax, cx, hax⟩ := htx.at_
              have cc := hax.c1
              have sx := bxx.lt
              have hrl := hrow_.lt
              have hsb_ : sk.length ≤ 8 := by have := hsl.out; omega
              by_cases hkn : k < nk
              · by_cases hgx : gx = 0
                · subst hgx
                  obtain ⟨m1, K1, g1_, ek1⟩ : ∃ n L g, intS Lx 0 1048576 = (n, L, g) := ⟨_, _, _, rfl⟩
                  obtain ⟨m2, K2, g2_, ek2⟩ : ∃ n L g, intS K1 g1_ 1048576 = (n, L, g) := ⟨_, _, _, rfl⟩
                  have hsp : keepS Lx 0 = (⟨(m1 : Int), (m2 : Int)⟩, K2, g2_) := by unfold keepS; rw [ek1]; dsimp only; rw [ek2]
                  have J1 := Lib.hid (fun W A c h => intR_any w.heap.size (fun b => b < w.heap.size) A c Lx 0 1048576 W h hzz (by omega))
                  have J2 := Lib.hid (fun W A c h => intR_any w.heap.size (fun b => b < w.heap.size) A c K1 g1_ 1048576 W h hzz (by omega))
                  rw [ek1] at J1
                  rw [ek2] at J2
                  have hL2 : Hid (listN keepS nk Lk gk = ((sk ++ [⟨(m1 : Int), (m2 : Int)⟩]) ++ (listN keepS (nk - (k + 1)) K2 g2_).1, (listN keepS (nk - (k + 1)) K2 g2_).2)) := by
                    show _ = _
                    rw [hLx.out, show nk - k = (nk - (k + 1)) + 1 by omega, listN_ok, hsp]
                    simp
                  clear ek1 ek2 hsp hLx
                  have bX := Blk.new wx 91 #[.int .i64 0, .int .i64 0]
                  have hbX : Below wx.heap.size wx (wx.alloc (.cells #[.int .i64 0, .int .i64 0] 91)) := (by repeat (first | exact Below.refl _ _ | refine Below.alloc ?_ (by simp) _ | refine Below.setCell ?_ (by simp) _ | refine Below.drew ?_))
                  have hzX : ∀ x, (fun b => b < w.heap.size) x → x ≠ wx.heap.size := fun x hx e => by (try simp at hx); omega
                  have hqx := htx.fr.size
                  go_wp2_with fail
                  refine (J1.out _ Ax cx (hax.below hbX)).mono ?_
                  rintro e y1 ⟨rfl, i1⟩
                  (try dsimp only at i1)
                  have bX1 := bX.fr i1.fr (by omega)
                  have qq : y1.cell? ⟨wx.heap.size, 0, none⟩ = some (.int .i64 0) := bX1.cell 0
                  have zz := bX1.frozen 0
                  have tx1 := (htx.then_ hbX).trans i1
                  have F1 := (Fr.of_below hbX (fun b => b = w.heap.size)).trans i1.fr (fun _ _ h => h)
                  clear cc bX hax i1 
                  go_wp2_with fail
                  obtain ⟨tx2, bX2, hf_⟩ := box_set (o := 0) tx1 bX1 (by omega) (by omega) hzX (.int .i64 (m1 : Int))
                  simp only [List.setIfInBounds_toArray, List.set_cons_zero] at bX2
                  have F2 := F1.trans hf_ (fun x hx e => absurd e (by omega))
                  clear qq zz tx1 bX1 hf_ F1 J1 
                  generalize y1.setCell ⟨wx.heap.size, 0, none⟩ (.int .i64 (m1 : Int)) = Y1 at *
                  obtain ⟨A_, c_, ha_⟩ := tx2.at_
                  refine (J2.out _ A_ c_ ha_).mono ?_
                  rintro e y2 ⟨rfl, i2⟩
                  (try dsimp only at i2)
                  have bX3 := bX2.fr i2.fr (by omega)
                  have qq : y2.cell? ⟨wx.heap.size, 1, none⟩ = some (.int .i64 0) := bX3.cell 1
                  have zz := bX3.frozen 1
                  have q0 : y2.cell? ⟨wx.heap.size, 0, none⟩ = some (.int .i64 (m1 : Int)) := bX3.cell 0
                  obtain ⟨tx4, bX4, hf_⟩ := box_set (o := 1) (tx2.trans i2) bX3 (by omega) (by omega) hzX (.int .i64 (m2 : Int))
                  have F3 := (F2.trans i2.fr (fun _ _ h => h)).trans hf_ (fun x hx e => absurd e (by omega))
                  have b2 := bxx.fr (F2.trans i2.fr (fun _ _ h => h)) (by omega)
                  have b3 := bxx.fr F3 (by omega)
                  have row3 := hrow_.fr F3 (fun g hg e => by have := (hrl g hg).1; omega)
                  have y3 := hyx.fr F3 (fun b _ hb e => by (try simp at hb); omega)
                  have s3 := F3.size
                  have p9 : y2.cell? ⟨wq.heap.size, 9, none⟩ = some (.slice Bk sk.length dk) := b2.cell 9
                  have hneX : ¬ wq.heap.size = wx.heap.size := by omega
                  have hneX2 : ¬ wx.heap.size = wq.heap.size := by omega
                  have hBne := hrow_.ne_blk bxx (by decide)
                  obtain ⟨i1_, hi1_, hw0_, hw1_, hw2_⟩ := info_parts kv_info
                  clear tx2 bX2 bX3 i2 ha_ F2 b2 J2 hf_
                  go_wp2_with (at_builtin; (refine wpList_append_row _ rfl (.tmp 101) (.tmp 103) 54 rfl (wq.heap.size + 1) 91 i1_ _ 2 16 Try.underlying54 hi1_ hw0_ hw1_ hw2_ rfl (by omega) rfl (row3.alloc _) rfl (Rd.lit (xs := [.int .i64 (m1 : Int), .int .i64 (m2 : Int)]) (n := 1) rfl rfl (by first | rfl | simp [World.setCell])) (by simp [Value.oneCell']) (by simp only [maxLen]; omega) (by omega) (by rw [World.size_alloc]; omega) ?_; intro B4 d4 w5 hrow4 hg4 hat4; have b5 := (b3.alloc (.cells #[.int .i64 (m1 : Int), .int .i64 (m2 : Int)] 91)).grown hg4 hBne; have p5 : w5.cell? ⟨wq.heap.size, 9, none⟩ = some (.slice Bk sk.length dk) := b5.cell 9; have z5 := b5.frozen 9))
                  skip
                  have fr4 := Fr.of_grown hg4 (S := fun x => ablk Bk = some x) (fun _ _ e => e)
                  have t5 := (tx4.then_ (c := (y2.setCell ⟨wx.heap.size, 1, none⟩ (.int .i64 (m2 : Int))).alloc (.cells #[.int .i64 (m1 : Int), .int .i64 (m2 : Int)] 91)) (by repeat (first | exact Below.refl _ _ | refine Below.alloc ?_ (by simp) _ | refine Below.setCell ?_ (by simp) _ | refine Below.drew ?_))).row (B := ablk Bk) fr4 (fun x e => by have := (hrl x e).1; omega) (by omega) (fun x hx => by (try simp at hx); omega)
                  have f6 : Fr (fun x => x = wq.heap.size) w5 (w5.setCell ⟨wq.heap.size, 9, none⟩ (.slice B4 (sk.length + 1) d4)) := (Fr.refl (fun x => x = wq.heap.size) w5).setAt _ 9 rfl _
                  have b6 := b5.set_ 9 (.slice B4 (sk.length + 1) d4)
                  simp only [List.setIfInBounds_toArray, List.set_cons_zero, List.set_cons_succ] at b6
                  have r4 : Row w5 (wq.heap.size + 1) 91 2 B4 (sk ++ [(⟨(m1 : Int), (m2 : Int)⟩ : KV)]).length d4 ((sk ++ [(⟨(m1 : Int), (m2 : Int)⟩ : KV)]).flatMap KV.cells) := by
                    rw [List.length_append, List.flatMap_append, List.flatMap_cons, List.flatMap_nil, List.append_nil]
                    exact hrow4
                  have y5 := (y3.alloc (.cells #[.int .i64 (m1 : Int), .int .i64 (m2 : Int)] 91)).fr fr4 (fun b _ hb e => by have := (hrl b e).1; (try simp at hb); omega)
                  go_roundw
                  case rel => exact ⟨sk ++ [⟨(m1 : Int), (m2 : Int)⟩], B4, d4, k + 1, K2, g2_, by go_num, by omega, by show _ = _; rw [List.length_append, hsl.out]; rfl, hL2, t5.side f6 (Nat.le_refl _) (by omega) hzw, by simpa using b6, r4.fr f6 (fun g hg e => (r4.ne_blk b5 (by decide)) (by rw [hg, e])), y5.fr f6 (fun b _ hb e => by (try simp at hb); omega)⟩
                  case measure => simp [intOf]; omega
                · have hgb : (gx == 0) = false := by simpa using hgx
                  have hl_ : listN keepS nk Lk gk = (sk, Lx, gx) := by rw [hLx.out, listN_bad hgx]; simp
                  rw [HK.out] at hl_
                  injection hl_ with hl1 hl2
                  injection hl2 with hl2 hl3
                  subst hl1 hl2 hl3
                  clear hLx
                  go_wp2_with fail
                  refine (H10.out _ Ax cx hax).mono ?_
                  rintro e w10 ⟨rfl, h10⟩
                  (try dsimp only at h10)
                  have bxC := bxx.fr h10.fr (by omega)
                  have htC := htx.trans h10
                  have hyC := hyx.fr h10.fr (fun b _ hb e => by (try simp at hb); omega)
                  have hkC := hrow_.fr h10.fr (fun g hg e => by have := (hrl g hg).1; omega)
                  clear bxx htx hyx h10 hax cc sx hrl hrow_
                  obtain ⟨wk, rfl⟩ : ∃ wk : World, wk = wx := ⟨_, rfl⟩
                  go_wp2_with fail
                  go_loopw [12] (fun kv wx => ∃ (sc : List HW) (Bc : Option Addr) (dc k : Nat) (Lx : List UInt8) (gx : Int), kv = .int .i64 (k : Int) ∧ k ≤ nc ∧ Hid (sc.length = k) ∧ Hid (listN choS nc Lc gc = (sc ++ (listN choS (nc - k) Lx gx).1, (listN choS (nc - k) Lx gx).2)) ∧ EyeTo wq 109 w.heap.size (fun b => b < w.heap.size) Lx gx wx ∧ Blk wx wq.heap.size 57 #[.int .i64 0, .int .i64 (n1 : Int), .int .i64 ((n2 : Int) - 1), .int .i64 ((n3 : Int) - 1), .int .u32 (n4 : Int), .int .i64 (n5 : Int), .string ⟨t6.toArray⟩, .string ⟨t7.toArray⟩, .slice A8 t8.length c8, .slice Bk kl.length dk, .slice Bc sc.length dc] ∧ Row wx (wq.heap.size + 1) 95 2 Bc sc.length dc (sc.flatMap HW.cells) ∧ By wx (fun b => b < w.heap.size) A8 t8 ∧ Row wx (wq.heap.size + 1) 91 2 Bk kl.length dk (kl.flatMap KV.cells)) (fun kv _ => nc - (intOf kv).toNat)
                  case atStart => exact ⟨[], none, 0, 0, Lc, gc, rfl, Nat.zero_le _, rfl, by show _ = _; simp, htC, bxC, Row.none_ _ _ _ _, hyC, hkC⟩
                  case round =>
                    obtain ⟨sc, Bc, dc, k, Lx, gx, rfl, hk, hsl, hLx, htx, bxx, hrow_, hyx, hkx⟩ := hrel
                    obtain ⟨wx, rfl⟩ : ∃ wx : World, wx = wr := ⟨_, rfl⟩
                    obtain ⟨Ax, cx, hax⟩ := htx.at_
                    have cc := hax.c1
                    have sx := bxx.lt
                    have hrl := hrow_.lt
                    have hsb_ : sc.length ≤ 8 := by have := hsl.out; omega
                    by_cases hkn : k < nc
                    · by_cases hgx : gx = 0
                      · subst hgx
                        obtain ⟨m1, K1, g1_, ek1⟩ : ∃ n L g, textS Lx 0 96 = (n, L, g) := ⟨_, _, _, rfl⟩
                        obtain ⟨m2, K2, g2_, ek2⟩ : ∃ n L g, intS K1 g1_ 2 = (n, L, g) := ⟨_, _, _, rfl⟩
                        have hsp : choS Lx 0 = (⟨⟨m1.toArray⟩, (m2 : Int)⟩, K2, g2_) := by unfold choS; rw [ek1]; dsimp only; rw [ek2]
                        have J1 := Lib.hid (fun W A c h => textR_any w.heap.size (fun b => b < w.heap.size) A c Lx 0 96 W h hzz (by omega))
                        have J2 := Lib.hid (fun W A c h => intR_any w.heap.size (fun b => b < w.heap.size) A c K1 g1_ 2 W h hzz (by omega))
                        rw [ek1] at J1
                        rw [ek2] at J2
                        have hL2 : Hid (listN choS nc Lc gc = ((sc ++ [⟨⟨m1.toArray⟩, (m2 : Int)⟩]) ++ (listN choS (nc - (k + 1)) K2 g2_).1, (listN choS (nc - (k + 1)) K2 g2_).2)) := by
                          show _ = _
                          rw [hLx.out, show nc - k = (nc - (k + 1)) + 1 by omega, listN_ok, hsp]
                          simp
                        clear ek1 ek2 hsp hLx
                        have bX := Blk.new wx 95 #[.string ⟨#[]⟩, .int .i64 0]
                        have hbX : Below wx.heap.size wx (wx.alloc (.cells #[.string ⟨#[]⟩, .int .i64 0] 95)) := (by repeat (first | exact Below.refl _ _ | refine Below.alloc ?_ (by simp) _ | refine Below.setCell ?_ (by simp) _ | refine Below.drew ?_))
                        have hzX : ∀ x, (fun b => b < w.heap.size) x → x ≠ wx.heap.size := fun x hx e => by (try simp at hx); omega
                        have hqx := htx.fr.size
                        go_wp2_with fail
                        refine (J1.out _ Ax cx (hax.below hbX)).mono ?_
                        rintro e y1 ⟨A_, n_, c_, rfl, hn_, hr_, _, _, i1⟩
                        (try dsimp only at i1 hr_)
                        obtain rfl : n_ = m1.length := hn_.out
                        have k_ := conv_by hr_ c_
                        have bX1 := bX.fr i1.fr (by omega)
                        have qq : y1.cell? ⟨wx.heap.size, 0, none⟩ = some (.string ⟨#[]⟩) := bX1.cell 0
                        have zz := bX1.frozen 0
                        have tx1 := (htx.then_ hbX).trans i1
                        have F1 := (Fr.of_below hbX (fun b => b = w.heap.size)).trans i1.fr (fun _ _ h => h)
                        clear cc bX hax i1 hr_ hn_
                        go_wp2_with fail
                        obtain ⟨tx2, bX2, hf_⟩ := box_set (o := 0) tx1 bX1 (by omega) (by omega) hzX (.string ⟨m1.toArray⟩)
                        simp only [List.setIfInBounds_toArray, List.set_cons_zero] at bX2
                        have F2 := F1.trans hf_ (fun x hx e => absurd e (by omega))
                        clear qq zz tx1 bX1 hf_ F1 J1 k_
                        generalize y1.setCell ⟨wx.heap.size, 0, none⟩ (.string ⟨m1.toArray⟩) = Y1 at *
                        obtain ⟨A_, c_, ha_⟩ := tx2.at_
                        refine (J2.out _ A_ c_ ha_).mono ?_
                        rintro e y2 ⟨rfl, i2⟩
                        (try dsimp only at i2)
                        have bX3 := bX2.fr i2.fr (by omega)
                        have qq : y2.cell? ⟨wx.heap.size, 1, none⟩ = some (.int .i64 0) := bX3.cell 1
                        have zz := bX3.frozen 1
                        have q0 : y2.cell? ⟨wx.heap.size, 0, none⟩ = some (.string ⟨m1.toArray⟩) := bX3.cell 0
                        obtain ⟨tx4, bX4, hf_⟩ := box_set (o := 1) (tx2.trans i2) bX3 (by omega) (by omega) hzX (.int .i64 (m2 : Int))
                        have F3 := (F2.trans i2.fr (fun _ _ h => h)).trans hf_ (fun x hx e => absurd e (by omega))
                        have b2 := bxx.fr (F2.trans i2.fr (fun _ _ h => h)) (by omega)
                        have b3 := bxx.fr F3 (by omega)
                        have row3 := hrow_.fr F3 (fun g hg e => by have := (hrl g hg).1; omega)
                        have y3 := hyx.fr F3 (fun b _ hb e => by (try simp at hb); omega)
                        have k3 := hkx.fr F3 (fun g hg e => by have := (hkx.lt g hg).1; omega)
                        have s3 := F3.size
                        have p9 : y2.cell? ⟨wq.heap.size, 10, none⟩ = some (.slice Bc sc.length dc) := b2.cell 10
                        have hneX : ¬ wq.heap.size = wx.heap.size := by omega
                        have hneX2 : ¬ wx.heap.size = wq.heap.size := by omega
                        have hBne := hrow_.ne_blk bxx (by decide)
                        obtain ⟨i1_, hi1_, hw0_, hw1_, hw2_⟩ := info_parts hw_info
                        clear tx2 bX2 bX3 i2 ha_ F2 b2 J2 hf_
                        go_wp2_with (at_builtin; (refine wpList_append_row _ rfl (.tmp 128) (.tmp 130) 55 rfl (wq.heap.size + 1) 95 i1_ _ 2 24 Try.underlying55 hi1_ hw0_ hw1_ hw2_ rfl (by omega) rfl (row3.alloc _) rfl (Rd.lit (xs := [.string ⟨m1.toArray⟩, .int .i64 (m2 : Int)]) (n := 1) rfl rfl (by first | rfl | simp [World.setCell])) (by simp [Value.oneCell']) (by simp only [maxLen]; omega) (by omega) (by rw [World.size_alloc]; omega) ?_; intro B4 d4 w5 hrow4 hg4 hat4; have b5 := (b3.alloc (.cells #[.string ⟨m1.toArray⟩, .int .i64 (m2 : Int)] 95)).grown hg4 hBne; have p5 : w5.cell? ⟨wq.heap.size, 10, none⟩ = some (.slice Bc sc.length dc) := b5.cell 10; have z5 := b5.frozen 10; have k5 := (k3.alloc (.cells #[.string ⟨m1.toArray⟩, .int .i64 (m2 : Int)] 95)).fr (Fr.of_grown hg4 (S := fun x => ablk Bc = some x) (fun _ _ e => e)) (fun g hg e => Row.ne_row k3 row3 (by decide) g hg e)))
                        skip
                        have fr4 := Fr.of_grown hg4 (S := fun x => ablk Bc = some x) (fun _ _ e => e)
                        have t5 := (tx4.then_ (c := (y2.setCell ⟨wx.heap.size, 1, none⟩ (.int .i64 (m2 : Int))).alloc (.cells #[.string ⟨m1.toArray⟩, .int .i64 (m2 : Int)] 95)) (by repeat (first | exact Below.refl _ _ | refine Below.alloc ?_ (by simp) _ | refine Below.setCell ?_ (by simp) _ | refine Below.drew ?_))).row (B := ablk Bc) fr4 (fun x e => by have := (hrl x e).1; omega) (by omega) (fun x hx => by (try simp at hx); omega)
                        have f6 : Fr (fun x => x = wq.heap.size) w5 (w5.setCell ⟨wq.heap.size, 10, none⟩ (.slice B4 (sc.length + 1) d4)) := (Fr.refl (fun x => x = wq.heap.size) w5).setAt _ 10 rfl _
                        have b6 := b5.set_ 10 (.slice B4 (sc.length + 1) d4)
                        simp only [List.setIfInBounds_toArray, List.set_cons_zero, List.set_cons_succ] at b6
                        have r4 : Row w5 (wq.heap.size + 1) 95 2 B4 (sc ++ [(⟨⟨m1.toArray⟩, (m2 : Int)⟩ : HW)]).length d4 ((sc ++ [(⟨⟨m1.toArray⟩, (m2 : Int)⟩ : HW)]).flatMap HW.cells) := by
                          rw [List.length_append, List.flatMap_append, List.flatMap_cons, List.flatMap_nil, List.append_nil]
                          exact hrow4
                        have y5 := (y3.alloc (.cells #[.string ⟨m1.toArray⟩, .int .i64 (m2 : Int)] 95)).fr fr4 (fun b _ hb e => by have := (hrl b e).1; (try simp at hb); omega)
                        go_roundw
                        case rel => exact ⟨sc ++ [⟨⟨m1.toArray⟩, (m2 : Int)⟩], B4, d4, k + 1, K2, g2_, by go_num, by omega, by show _ = _; rw [List.length_append, hsl.out]; rfl, hL2, t5.side f6 (Nat.le_refl _) (by omega) hzw, by simpa using b6, r4.fr f6 (fun g hg e => (r4.ne_blk b5 (by decide)) (by rw [hg, e])), y5.fr f6 (fun b _ hb e => by (try simp at hb); omega), k5.fr f6 (fun g hg e => (k5.ne_blk b5 (by decide)) (by rw [hg, e]))⟩
                        case measure => simp [intOf]; omega
                      · have hgb : (gx == 0) = false := by simpa using hgx
                        have hl_ : listN choS nc Lc gc = (sc, Lx, gx) := by rw [hLx.out, listN_bad hgx]; simp
                        rw [HCH.out] at hl_
                        injection hl_ with hl1 hl2
                        injection hl2 with hl2 hl3
                        subst hl1 hl2 hl3
                        clear hLx
                        have rowA := hrow.fr htx.fr (fun g hg e => by have := (hBl g hg).1; omega) (fun b _ hz _ e => hz e)
                        have r0 : wx.cell? ⟨wq.heap.size, 0, none⟩ = some (.int .i64 0) := bxx.cell 0
                        have r1 : wx.cell? ⟨wq.heap.size, 1, none⟩ = some (.int .i64 (n1 : Int)) := bxx.cell 1
                        have r2 : wx.cell? ⟨wq.heap.size, 2, none⟩ = some (.int .i64 ((n2 : Int) - 1)) := bxx.cell 2
                        have r3 : wx.cell? ⟨wq.heap.size, 3, none⟩ = some (.int .i64 ((n3 : Int) - 1)) := bxx.cell 3
                        have r4 : wx.cell? ⟨wq.heap.size, 4, none⟩ = some (.int .u32 (n4 : Int)) := bxx.cell 4
                        have r5 : wx.cell? ⟨wq.heap.size, 5, none⟩ = some (.int .i64 (n5 : Int)) := bxx.cell 5
                        have r6 : wx.cell? ⟨wq.heap.size, 6, none⟩ = some (.string ⟨t6.toArray⟩) := bxx.cell 6
                        have r7 : wx.cell? ⟨wq.heap.size, 7, none⟩ = some (.string ⟨t7.toArray⟩) := bxx.cell 7
                        have r8 : wx.cell? ⟨wq.heap.size, 8, none⟩ = some (.slice A8 t8.length c8) := bxx.cell 8
                        have r9 : wx.cell? ⟨wq.heap.size, 9, none⟩ = some (.slice Bk kl.length dk) := bxx.cell 9
                        have r10 : wx.cell? ⟨wq.heap.size, 10, none⟩ = some (.slice Bc cl.length dc) := bxx.cell 10
                        have hkl_ := hkx.lt
                        have hqx := htx.fr.size
                        clear hax
                        go_wp2_with (at_builtin; refine wpList_append_row _ rfl (.tmp 133) (.tmp 135) 50 rfl (w.heap.size + 1) 57 i0 _ 11 152 Try.underlying50 hi0 hz0 hz1 hz2 rfl (by omega) rfl (rowA.row.alloc _) rfl (Rd.lit (xs := [.int .i64 0, .int .i64 (n1 : Int), .int .i64 ((n2 : Int) - 1), .int .i64 ((n3 : Int) - 1), .int .u32 (n4 : Int), .int .i64 (n5 : Int), .string ⟨t6.toArray⟩, .string ⟨t7.toArray⟩, .slice A8 t8.length c8, .slice Bk kl.length dk, .slice Bc cl.length dc]) (n := 1) rfl rfl rfl) (by simp [Value.oneCell']) (by simp only [maxLen]; omega) (by omega) (by rw [World.size_alloc]; omega) ?_; intro B4 d4 w4 hrow4 hg4 hat4)
                        have hp := rowA.push (v := { a := { k := ((0 : Nat) : Int), s := (n1 : Int), n := (n2 : Int) - 1, b := (n3 : Int) - 1, m := (n4 : Int), ek := (n5 : Int), p := ⟨t6.toArray⟩, t := ⟨t7.toArray⟩, x := t8, kl := kl, cl := cl }, xA := A8, xc := c8, kA := Bk, kc := dk, cA := Bc, cc := dc }) ⟨hyx.mono (fun b _ hb => ⟨by (try simp at hb); omega, fun e => by have := (hBl b e).1; (try simp at hb); omega⟩), hkx.rd.mono (fun b _ hb => by have h1 := (hkl_ b hb).1; exact ⟨by omega, fun e => by have := (hBl b e).2; omega⟩), hrow_.rd.mono (fun b _ hb => by have h1 := (hrl b hb).1; exact ⟨by omega, fun e => by have := (hBl b e).2; omega⟩), hfit.out.1⟩ hrow4 hg4 hat4
                        have hE4 := (hE.trans htx).row hp.2 (fun k e => by have := (hBl k e).1; omega) (by omega) (fun b hb => by (try simp at hb); omega)
                        have hLn : Hid (∀ t L' g', RdN (nn - (i + 1)) L10 f10 t L' g' → RdN nn LL ff ((s ++ [({ a := { k := ((0 : Nat) : Int), s := (n1 : Int), n := (n2 : Int) - 1, b := (n3 : Int) - 1, m := (n4 : Int), ek := (n5 : Int), p := ⟨t6.toArray⟩, t := ⟨t7.toArray⟩, x := t8, kl := kl, cl := cl }, xA := A8, xc := c8, kA := Bk, kc := dk, cA := Bc, cc := dc } : AV)]).map AV.a ++ t) L' g') := fun t L' g' h => by
                          rw [List.map_append, List.append_assoc]
                          refine hL.out _ _ _ ?_
                          rw [show nn - i = (nn - (i + 1)) + 1 by omega]
                          exact .step HR.out h
                        have hfl := hfit.out.2
                        have hjj := hj.out
                        go_roundw
                        case rel => exact ⟨s ++ [{ a := { k := ((0 : Nat) : Int), s := (n1 : Int), n := (n2 : Int) - 1, b := (n3 : Int) - 1, m := (n4 : Int), ek := (n5 : Int), p := ⟨t6.toArray⟩, t := ⟨t7.toArray⟩, x := t8, kl := kl, cl := cl }, xA := A8, xc := c8, kA := Bk, kc := dk, cA := Bc, cc := dc }], B4, d4, i + 1, L10, f10, by simp, by go_num, by omega, hp.1, hE4, hLn, by show _ = _; rw [List.length_append, hjj]; rfl, by omega⟩
                        case measure => simp [intOf]; omega
                    · obtain rfl : k = nc := by omega
                      have hl_ : listN choS k Lc gc = (sc, Lx, gx) := by rw [hLx.out, Nat.sub_self]; simp [listN]
                      rw [HCH.out] at hl_
                      injection hl_ with hl1 hl2
                      injection hl2 with hl2 hl3
                      subst hl1 hl2 hl3
                      clear hLx
                      have rowA := hrow.fr htx.fr (fun g hg e => by have := (hBl g hg).1; omega) (fun b _ hz _ e => hz e)
                      have r0 : wx.cell? ⟨wq.heap.size, 0, none⟩ = some (.int .i64 0) := bxx.cell 0
                      have r1 : wx.cell? ⟨wq.heap.size, 1, none⟩ = some (.int .i64 (n1 : Int)) := bxx.cell 1
                      have r2 : wx.cell? ⟨wq.heap.size, 2, none⟩ = some (.int .i64 ((n2 : Int) - 1)) := bxx.cell 2
                      have r3 : wx.cell? ⟨wq.heap.size, 3, none⟩ = some (.int .i64 ((n3 : Int) - 1)) := bxx.cell 3
                      have r4 : wx.cell? ⟨wq.heap.size, 4, none⟩ = some (.int .u32 (n4 : Int)) := bxx.cell 4
                      have r5 : wx.cell? ⟨wq.heap.size, 5, none⟩ = some (.int .i64 (n5 : Int)) := bxx.cell 5
                      have r6 : wx.cell? ⟨wq.heap.size, 6, none⟩ = some (.string ⟨t6.toArray⟩) := bxx.cell 6
                      have r7 : wx.cell? ⟨wq.heap.size, 7, none⟩ = some (.string ⟨t7.toArray⟩) := bxx.cell 7
                      have r8 : wx.cell? ⟨wq.heap.size, 8, none⟩ = some (.slice A8 t8.length c8) := bxx.cell 8
                      have r9 : wx.cell? ⟨wq.heap.size, 9, none⟩ = some (.slice Bk kl.length dk) := bxx.cell 9
                      have r10 : wx.cell? ⟨wq.heap.size, 10, none⟩ = some (.slice Bc cl.length dc) := bxx.cell 10
                      have hkl_ := hkx.lt
                      have hqx := htx.fr.size
                      clear hax
                      go_wp2_with (at_builtin; refine wpList_append_row _ rfl (.tmp 133) (.tmp 135) 50 rfl (w.heap.size + 1) 57 i0 _ 11 152 Try.underlying50 hi0 hz0 hz1 hz2 rfl (by omega) rfl (rowA.row.alloc _) rfl (Rd.lit (xs := [.int .i64 0, .int .i64 (n1 : Int), .int .i64 ((n2 : Int) - 1), .int .i64 ((n3 : Int) - 1), .int .u32 (n4 : Int), .int .i64 (n5 : Int), .string ⟨t6.toArray⟩, .string ⟨t7.toArray⟩, .slice A8 t8.length c8, .slice Bk kl.length dk, .slice Bc cl.length dc]) (n := 1) rfl rfl rfl) (by simp [Value.oneCell']) (by simp only [maxLen]; omega) (by omega) (by rw [World.size_alloc]; omega) ?_; intro B4 d4 w4 hrow4 hg4 hat4)
                      have hp := rowA.push (v := { a := { k := ((0 : Nat) : Int), s := (n1 : Int), n := (n2 : Int) - 1, b := (n3 : Int) - 1, m := (n4 : Int), ek := (n5 : Int), p := ⟨t6.toArray⟩, t := ⟨t7.toArray⟩, x := t8, kl := kl, cl := cl }, xA := A8, xc := c8, kA := Bk, kc := dk, cA := Bc, cc := dc }) ⟨hyx.mono (fun b _ hb => ⟨by (try simp at hb); omega, fun e => by have := (hBl b e).1; (try simp at hb); omega⟩), hkx.rd.mono (fun b _ hb => by have h1 := (hkl_ b hb).1; exact ⟨by omega, fun e => by have := (hBl b e).2; omega⟩), hrow_.rd.mono (fun b _ hb => by have h1 := (hrl b hb).1; exact ⟨by omega, fun e => by have := (hBl b e).2; omega⟩), hfit.out.1⟩ hrow4 hg4 hat4
                      have hE4 := (hE.trans htx).row hp.2 (fun k e => by have := (hBl k e).1; omega) (by omega) (fun b hb => by (try simp at hb); omega)
                      have hLn : Hid (∀ t L' g', RdN (nn - (i + 1)) L10 f10 t L' g' → RdN nn LL ff ((s ++ [({ a := { k := ((0 : Nat) : Int), s := (n1 : Int), n := (n2 : Int) - 1, b := (n3 : Int) - 1, m := (n4 : Int), ek := (n5 : Int), p := ⟨t6.toArray⟩, t := ⟨t7.toArray⟩, x := t8, kl := kl, cl := cl }, xA := A8, xc := c8, kA := Bk, kc := dk, cA := Bc, cc := dc } : AV)]).map AV.a ++ t) L' g') := fun t L' g' h => by
                        rw [List.map_append, List.append_assoc]
                        refine hL.out _ _ _ ?_
                        rw [show nn - i = (nn - (i + 1)) + 1 by omega]
                        exact .step HR.out h
                      have hfl := hfit.out.2
                      have hjj := hj.out
                      go_roundw
                      case rel => exact ⟨s ++ [{ a := { k := ((0 : Nat) : Int), s := (n1 : Int), n := (n2 : Int) - 1, b := (n3 : Int) - 1, m := (n4 : Int), ek := (n5 : Int), p := ⟨t6.toArray⟩, t := ⟨t7.toArray⟩, x := t8, kl := kl, cl := cl }, xA := A8, xc := c8, kA := Bk, kc := dk, cA := Bc, cc := dc }], B4, d4, i + 1, L10, f10, by simp, by go_num, by omega, hp.1, hE4, hLn, by show _ = _; rw [List.length_append, hjj]; rfl, by omega⟩
                      case measure => simp [intOf]; omega
              · obtain rfl : k = nk := by omega
                have hl_ : listN keepS k Lk gk = (sk, Lx, gx) := by rw [hLx.out, Nat.sub_self]; simp [listN]
                rw [HK.out] at hl_
                injection hl_ with hl1 hl2
                injection hl2 with hl2 hl3
                subst hl1 hl2 hl3
                clear hLx
                go_wp2_with fail
                refine (H10.out _ Ax cx hax).mono ?_
                rintro e w10 ⟨rfl, h10⟩
                (try dsimp only at h10)
                have bxC := bxx.fr h10.fr (by omega)
                have htC := htx.trans h10
                have hyC := hyx.fr h10.fr (fun b _ hb e => by (try simp at hb); omega)
                have hkC := hrow_.fr h10.fr (fun g hg e => by have := (hrl g hg).1; omega)
                clear bxx htx hyx h10 hax cc sx hrl hrow_
                obtain ⟨wk, rfl⟩ : ∃ wk : World, wk = wx := ⟨_, rfl⟩
                go_wp2_with fail
                go_loopw [12] (fun kv wx => ∃ (sc : List HW) (Bc : Option Addr) (dc k : Nat) (Lx : List UInt8) (gx : Int), kv = .int .i64 (k : Int) ∧ k ≤ nc ∧ Hid (sc.length = k) ∧ Hid (listN choS nc Lc gc = (sc ++ (listN choS (nc - k) Lx gx).1, (listN choS (nc - k) Lx gx).2)) ∧ EyeTo wq 109 w.heap.size (fun b => b < w.heap.size) Lx gx wx ∧ Blk wx wq.heap.size 57 #[.int .i64 0, .int .i64 (n1 : Int), .int .i64 ((n2 : Int) - 1), .int .i64 ((n3 : Int) - 1), .int .u32 (n4 : Int), .int .i64 (n5 : Int), .string ⟨t6.toArray⟩, .string ⟨t7.toArray⟩, .slice A8 t8.length c8, .slice Bk kl.length dk, .slice Bc sc.length dc] ∧ Row wx (wq.heap.size + 1) 95 2 Bc sc.length dc (sc.flatMap HW.cells) ∧ By wx (fun b => b < w.heap.size) A8 t8 ∧ Row wx (wq.heap.size + 1) 91 2 Bk kl.length dk (kl.flatMap KV.cells)) (fun kv _ => nc - (intOf kv).toNat)
                case atStart => exact ⟨[], none, 0, 0, Lc, gc, rfl, Nat.zero_le _, rfl, by show _ = _; simp, htC, bxC, Row.none_ _ _ _ _, hyC, hkC⟩
                case round =>
                  obtain ⟨sc, Bc, dc, k, Lx, gx, rfl, hk, hsl, hLx, htx, bxx, hrow_, hyx, hkx⟩ := hrel
                  obtain ⟨wx, rfl⟩ : ∃ wx : World, wx = wr := ⟨_, rfl⟩
                  obtain ⟨Ax, cx, hax⟩ := htx.at_
                  have cc := hax.c1
                  have sx := bxx.lt
                  have hrl := hrow_.lt
                  have hsb_ : sc.length ≤ 8 := by have := hsl.out; omega
                  by_cases hkn : k < nc
                  · by_cases hgx : gx = 0
                    · subst hgx
                      obtain ⟨m1, K1, g1_, ek1⟩ : ∃ n L g, textS Lx 0 96 = (n, L, g) := ⟨_, _, _, rfl⟩
                      obtain ⟨m2, K2, g2_, ek2⟩ : ∃ n L g, intS K1 g1_ 2 = (n, L, g) := ⟨_, _, _, rfl⟩
                      have hsp : choS Lx 0 = (⟨⟨m1.toArray⟩, (m2 : Int)⟩, K2, g2_) := by unfold choS; rw [ek1]; dsimp only; rw [ek2]
                      have J1 := Lib.hid (fun W A c h => textR_any w.heap.size (fun b => b < w.heap.size) A c Lx 0 96 W h hzz (by omega))
                      have J2 := Lib.hid (fun W A c h => intR_any w.heap.size (fun b => b < w.heap.size) A c K1 g1_ 2 W h hzz (by omega))
                      rw [ek1] at J1
                      rw [ek2] at J2
                      have hL2 : Hid (listN choS nc Lc gc = ((sc ++ [⟨⟨m1.toArray⟩, (m2 : Int)⟩]) ++ (listN choS (nc - (k + 1)) K2 g2_).1, (listN choS (nc - (k + 1)) K2 g2_).2)) := by
                        show _ = _
                        rw [hLx.out, show nc - k = (nc - (k + 1)) + 1 by omega, listN_ok, hsp]
                        simp
                      clear ek1 ek2 hsp hLx
                      have bX := Blk.new wx 95 #[.string ⟨#[]⟩, .int .i64 0]
                      have hbX : Below wx.heap.size wx (wx.alloc (.cells #[.string ⟨#[]⟩, .int .i64 0] 95)) := (by repeat (first | exact Below.refl _ _ | refine Below.alloc ?_ (by simp) _ | refine Below.setCell ?_ (by simp) _ | refine Below.drew ?_))
                      have hzX : ∀ x, (fun b => b < w.heap.size) x → x ≠ wx.heap.size := fun x hx e => by (try simp at hx); omega
                      have hqx := htx.fr.size
                      go_wp2_with fail
                      refine (J1.out _ Ax cx (hax.below hbX)).mono ?_
                      rintro e y1 ⟨A_, n_, c_, rfl, hn_, hr_, _, _, i1⟩
                      (try dsimp only at i1 hr_)
                      obtain rfl : n_ = m1.length := hn_.out
                      have k_ := conv_by hr_ c_
                      have bX1 := bX.fr i1.fr (by omega)
                      have qq : y1.cell? ⟨wx.heap.size, 0, none⟩ = some (.string ⟨#[]⟩) := bX1.cell 0
                      have zz := bX1.frozen 0
                      have tx1 := (htx.then_ hbX).trans i1
                      have F1 := (Fr.of_below hbX (fun b => b = w.heap.size)).trans i1.fr (fun _ _ h => h)
                      clear cc bX hax i1 hr_ hn_
                      go_wp2_with fail
                      obtain ⟨tx2, bX2, hf_⟩ := box_set (o := 0) tx1 bX1 (by omega) (by omega) hzX (.string ⟨m1.toArray⟩)
                      simp only [List.setIfInBounds_toArray, List.set_cons_zero] at bX2
                      have F2 := F1.trans hf_ (fun x hx e => absurd e (by omega))
                      clear qq zz tx1 bX1 hf_ F1 J1 k_
                      generalize y1.setCell ⟨wx.heap.size, 0, none⟩ (.string ⟨m1.toArray⟩) = Y1 at *
                      obtain ⟨A_, c_, ha_⟩ := tx2.at_
                      refine (J2.out _ A_ c_ ha_).mono ?_
                      rintro e y2 ⟨rfl, i2⟩
                      (try dsimp only at i2)
                      have bX3 := bX2.fr i2.fr (by omega)
                      have qq : y2.cell? ⟨wx.heap.size, 1, none⟩ = some (.int .i64 0) := bX3.cell 1
                      have zz := bX3.frozen 1
                      have q0 : y2.cell? ⟨wx.heap.size, 0, none⟩ = some (.string ⟨m1.toArray⟩) := bX3.cell 0
                      obtain ⟨tx4, bX4, hf_⟩ := box_set (o := 1) (tx2.trans i2) bX3 (by omega) (by omega) hzX (.int .i64 (m2 : Int))
                      have F3 := (F2.trans i2.fr (fun _ _ h => h)).trans hf_ (fun x hx e => absurd e (by omega))
                      have b2 := bxx.fr (F2.trans i2.fr (fun _ _ h => h)) (by omega)
                      have b3 := bxx.fr F3 (by omega)
                      have row3 := hrow_.fr F3 (fun g hg e => by have := (hrl g hg).1; omega)
                      have y3 := hyx.fr F3 (fun b _ hb e => by (try simp at hb); omega)
                      have k3 := hkx.fr F3 (fun g hg e => by have := (hkx.lt g hg).1; omega)
                      have s3 := F3.size
                      have p9 : y2.cell? ⟨wq.heap.size, 10, none⟩ = some (.slice Bc sc.length dc) := b2.cell 10
                      have hneX : ¬ wq.heap.size = wx.heap.size := by omega
                      have hneX2 : ¬ wx.heap.size = wq.heap.size := by omega
                      have hBne := hrow_.ne_blk bxx (by decide)
                      obtain ⟨i1_, hi1_, hw0_, hw1_, hw2_⟩ := info_parts hw_info
                      clear tx2 bX2 bX3 i2 ha_ F2 b2 J2 hf_
                      go_wp2_with (at_builtin; (refine wpList_append_row _ rfl (.tmp 128) (.tmp 130) 55 rfl (wq.heap.size + 1) 95 i1_ _ 2 24 Try.underlying55 hi1_ hw0_ hw1_ hw2_ rfl (by omega) rfl (row3.alloc _) rfl (Rd.lit (xs := [.string ⟨m1.toArray⟩, .int .i64 (m2 : Int)]) (n := 1) rfl rfl (by first | rfl | simp [World.setCell])) (by simp [Value.oneCell']) (by simp only [maxLen]; omega) (by omega) (by rw [World.size_alloc]; omega) ?_; intro B4 d4 w5 hrow4 hg4 hat4; have b5 := (b3.alloc (.cells #[.string ⟨m1.toArray⟩, .int .i64 (m2 : Int)] 95)).grown hg4 hBne; have p5 : w5.cell? ⟨wq.heap.size, 10, none⟩ = some (.slice Bc sc.length dc) := b5.cell 10; have z5 := b5.frozen 10; have k5 := (k3.alloc (.cells #[.string ⟨m1.toArray⟩, .int .i64 (m2 : Int)] 95)).fr (Fr.of_grown hg4 (S := fun x => ablk Bc = some x) (fun _ _ e => e)) (fun g hg e => Row.ne_row k3 row3 (by decide) g hg e)))
                      skip
                      have fr4 := Fr.of_grown hg4 (S := fun x => ablk Bc = some x) (fun _ _ e => e)
                      have t5 := (tx4.then_ (c := (y2.setCell ⟨wx.heap.size, 1, none⟩ (.int .i64 (m2 : Int))).alloc (.cells #[.string ⟨m1.toArray⟩, .int .i64 (m2 : Int)] 95)) (by repeat (first | exact Below.refl _ _ | refine Below.alloc ?_ (by simp) _ | refine Below.setCell ?_ (by simp) _ | refine Below.drew ?_))).row (B := ablk Bc) fr4 (fun x e => by have := (hrl x e).1; omega) (by omega) (fun x hx => by (try simp at hx); omega)
                      have f6 : Fr (fun x => x = wq.heap.size) w5 (w5.setCell ⟨wq.heap.size, 10, none⟩ (.slice B4 (sc.length + 1) d4)) := (Fr.refl (fun x => x = wq.heap.size) w5).setAt _ 10 rfl _
                      have b6 := b5.set_ 10 (.slice B4 (sc.length + 1) d4)
                      simp only [List.setIfInBounds_toArray, List.set_cons_zero, List.set_cons_succ] at b6
                      have r4 : Row w5 (wq.heap.size + 1) 95 2 B4 (sc ++ [(⟨⟨m1.toArray⟩, (m2 : Int)⟩ : HW)]).length d4 ((sc ++ [(⟨⟨m1.toArray⟩, (m2 : Int)⟩ : HW)]).flatMap HW.cells) := by
                        rw [List.length_append, List.flatMap_append, List.flatMap_cons, List.flatMap_nil, List.append_nil]
                        exact hrow4
                      have y5 := (y3.alloc (.cells #[.string ⟨m1.toArray⟩, .int .i64 (m2 : Int)] 95)).fr fr4 (fun b _ hb e => by have := (hrl b e).1; (try simp at hb); omega)
                      go_roundw
                      case rel => exact ⟨sc ++ [⟨⟨m1.toArray⟩, (m2 : Int)⟩], B4, d4, k + 1, K2, g2_, by go_num, by omega, by show _ = _; rw [List.length_append, hsl.out]; rfl, hL2, t5.side f6 (Nat.le_refl _) (by omega) hzw, by simpa using b6, r4.fr f6 (fun g hg e => (r4.ne_blk b5 (by decide)) (by rw [hg, e])), y5.fr f6 (fun b _ hb e => by (try simp at hb); omega), k5.fr f6 (fun g hg e => (k5.ne_blk b5 (by decide)) (by rw [hg, e]))⟩
                      case measure => simp [intOf]; omega
                    · have hgb : (gx == 0) = false := by simpa using hgx
                      have hl_ : listN choS nc Lc gc = (sc, Lx, gx) := by rw [hLx.out, listN_bad hgx]; simp
                      rw [HCH.out] at hl_
                      injection hl_ with hl1 hl2
                      injection hl2 with hl2 hl3
                      subst hl1 hl2 hl3
                      clear hLx
                      have rowA := hrow.fr htx.fr (fun g hg e => by have := (hBl g hg).1; omega) (fun b _ hz _ e => hz e)
                      have r0 : wx.cell? ⟨wq.heap.size, 0, none⟩ = some (.int .i64 0) := bxx.cell 0
                      have r1 : wx.cell? ⟨wq.heap.size, 1, none⟩ = some (.int .i64 (n1 : Int)) := bxx.cell 1
                      have r2 : wx.cell? ⟨wq.heap.size, 2, none⟩ = some (.int .i64 ((n2 : Int) - 1)) := bxx.cell 2
                      have r3 : wx.cell? ⟨wq.heap.size, 3, none⟩ = some (.int .i64 ((n3 : Int) - 1)) := bxx.cell 3
                      have r4 : wx.cell? ⟨wq.heap.size, 4, none⟩ = some (.int .u32 (n4 : Int)) := bxx.cell 4
                      have r5 : wx.cell? ⟨wq.heap.size, 5, none⟩ = some (.int .i64 (n5 : Int)) := bxx.cell 5
                      have r6 : wx.cell? ⟨wq.heap.size, 6, none⟩ = some (.string ⟨t6.toArray⟩) := bxx.cell 6
                      have r7 : wx.cell? ⟨wq.heap.size, 7, none⟩ = some (.string ⟨t7.toArray⟩) := bxx.cell 7
                      have r8 : wx.cell? ⟨wq.heap.size, 8, none⟩ = some (.slice A8 t8.length c8) := bxx.cell 8
                      have r9 : wx.cell? ⟨wq.heap.size, 9, none⟩ = some (.slice Bk kl.length dk) := bxx.cell 9
                      have r10 : wx.cell? ⟨wq.heap.size, 10, none⟩ = some (.slice Bc cl.length dc) := bxx.cell 10
                      have hkl_ := hkx.lt
                      have hqx := htx.fr.size
                      clear hax
                      go_wp2_with (at_builtin; refine wpList_append_row _ rfl (.tmp 133) (.tmp 135) 50 rfl (w.heap.size + 1) 57 i0 _ 11 152 Try.underlying50 hi0 hz0 hz1 hz2 rfl (by omega) rfl (rowA.row.alloc _) rfl (Rd.lit (xs := [.int .i64 0, .int .i64 (n1 : Int), .int .i64 ((n2 : Int) - 1), .int .i64 ((n3 : Int) - 1), .int .u32 (n4 : Int), .int .i64 (n5 : Int), .string ⟨t6.toArray⟩, .string ⟨t7.toArray⟩, .slice A8 t8.length c8, .slice Bk kl.length dk, .slice Bc cl.length dc]) (n := 1) rfl rfl rfl) (by simp [Value.oneCell']) (by simp only [maxLen]; omega) (by omega) (by rw [World.size_alloc]; omega) ?_; intro B4 d4 w4 hrow4 hg4 hat4)
                      have hp := rowA.push (v := { a := { k := ((0 : Nat) : Int), s := (n1 : Int), n := (n2 : Int) - 1, b := (n3 : Int) - 1, m := (n4 : Int), ek := (n5 : Int), p := ⟨t6.toArray⟩, t := ⟨t7.toArray⟩, x := t8, kl := kl, cl := cl }, xA := A8, xc := c8, kA := Bk, kc := dk, cA := Bc, cc := dc }) ⟨hyx.mono (fun b _ hb => ⟨by (try simp at hb); omega, fun e => by have := (hBl b e).1; (try simp at hb); omega⟩), hkx.rd.mono (fun b _ hb => by have h1 := (hkl_ b hb).1; exact ⟨by omega, fun e => by have := (hBl b e).2; omega⟩), hrow_.rd.mono (fun b _ hb => by have h1 := (hrl b hb).1; exact ⟨by omega, fun e => by have := (hBl b e).2; omega⟩), hfit.out.1⟩ hrow4 hg4 hat4
                      have hE4 := (hE.trans htx).row hp.2 (fun k e => by have := (hBl k e).1; omega) (by omega) (fun b hb => by (try simp at hb); omega)
                      have hLn : Hid (∀ t L' g', RdN (nn - (i + 1)) L10 f10 t L' g' → RdN nn LL ff ((s ++ [({ a := { k := ((0 : Nat) : Int), s := (n1 : Int), n := (n2 : Int) - 1, b := (n3 : Int) - 1, m := (n4 : Int), ek := (n5 : Int), p := ⟨t6.toArray⟩, t := ⟨t7.toArray⟩, x := t8, kl := kl, cl := cl }, xA := A8, xc := c8, kA := Bk, kc := dk, cA := Bc, cc := dc } : AV)]).map AV.a ++ t) L' g') := fun t L' g' h => by
                        rw [List.map_append, List.append_assoc]
                        refine hL.out _ _ _ ?_
                        rw [show nn - i = (nn - (i + 1)) + 1 by omega]
                        exact .step HR.out h
                      have hfl := hfit.out.2
                      have hjj := hj.out
                      go_roundw
                      case rel => exact ⟨s ++ [{ a := { k := ((0 : Nat) : Int), s := (n1 : Int), n := (n2 : Int) - 1, b := (n3 : Int) - 1, m := (n4 : Int), ek := (n5 : Int), p := ⟨t6.toArray⟩, t := ⟨t7.toArray⟩, x := t8, kl := kl, cl := cl }, xA := A8, xc := c8, kA := Bk, kc := dk, cA := Bc, cc := dc }], B4, d4, i + 1, L10, f10, by simp, by go_num, by omega, hp.1, hE4, hLn, by show _ = _; rw [List.length_append, hjj]; rfl, by omega⟩
                      case measure => simp [intOf]; omega
                  · obtain rfl : k = nc := by omega
                    have hl_ : listN choS k Lc gc = (sc, Lx, gx) := by rw [hLx.out, Nat.sub_self]; simp [listN]
                    rw [HCH.out] at hl_
                    injection hl_ with hl1 hl2
                    injection hl2 with hl2 hl3
                    subst hl1 hl2 hl3
                    clear hLx
                    have rowA := hrow.fr htx.fr (fun g hg e => by have := (hBl g hg).1; omega) (fun b _ hz _ e => hz e)
                    have r0 : wx.cell? ⟨wq.heap.size, 0, none⟩ = some (.int .i64 0) := bxx.cell 0
                    have r1 : wx.cell? ⟨wq.heap.size, 1, none⟩ = some (.int .i64 (n1 : Int)) := bxx.cell 1
                    have r2 : wx.cell? ⟨wq.heap.size, 2, none⟩ = some (.int .i64 ((n2 : Int) - 1)) := bxx.cell 2
                    have r3 : wx.cell? ⟨wq.heap.size, 3, none⟩ = some (.int .i64 ((n3 : Int) - 1)) := bxx.cell 3
                    have r4 : wx.cell? ⟨wq.heap.size, 4, none⟩ = some (.int .u32 (n4 : Int)) := bxx.cell 4
                    have r5 : wx.cell? ⟨wq.heap.size, 5, none⟩ = some (.int .i64 (n5 : Int)) := bxx.cell 5
                    have r6 : wx.cell? ⟨wq.heap.size, 6, none⟩ = some (.string ⟨t6.toArray⟩) := bxx.cell 6
                    have r7 : wx.cell? ⟨wq.heap.size, 7, none⟩ = some (.string ⟨t7.toArray⟩) := bxx.cell 7
                    have r8 : wx.cell? ⟨wq.heap.size, 8, none⟩ = some (.slice A8 t8.length c8) := bxx.cell 8
                    have r9 : wx.cell? ⟨wq.heap.size, 9, none⟩ = some (.slice Bk kl.length dk) := bxx.cell 9
                    have r10 : wx.cell? ⟨wq.heap.size, 10, none⟩ = some (.slice Bc cl.length dc) := bxx.cell 10
                    have hkl_ := hkx.lt
                    have hqx := htx.fr.size
                    clear hax
                    go_wp2_with (at_builtin; refine wpList_append_row _ rfl (.tmp 133) (.tmp 135) 50 rfl (w.heap.size + 1) 57 i0 _ 11 152 Try.underlying50 hi0 hz0 hz1 hz2 rfl (by omega) rfl (rowA.row.alloc _) rfl (Rd.lit (xs := [.int .i64 0, .int .i64 (n1 : Int), .int .i64 ((n2 : Int) - 1), .int .i64 ((n3 : Int) - 1), .int .u32 (n4 : Int), .int .i64 (n5 : Int), .string ⟨t6.toArray⟩, .string ⟨t7.toArray⟩, .slice A8 t8.length c8, .slice Bk kl.length dk, .slice Bc cl.length dc]) (n := 1) rfl rfl rfl) (by simp [Value.oneCell']) (by simp only [maxLen]; omega) (by omega) (by rw [World.size_alloc]; omega) ?_; intro B4 d4 w4 hrow4 hg4 hat4)
                    have hp := rowA.push (v := { a := { k := ((0 : Nat) : Int), s := (n1 : Int), n := (n2 : Int) - 1, b := (n3 : Int) - 1, m := (n4 : Int), ek := (n5 : Int), p := ⟨t6.toArray⟩, t := ⟨t7.toArray⟩, x := t8, kl := kl, cl := cl }, xA := A8, xc := c8, kA := Bk, kc := dk, cA := Bc, cc := dc }) ⟨hyx.mono (fun b _ hb => ⟨by (try simp at hb); omega, fun e => by have := (hBl b e).1; (try simp at hb); omega⟩), hkx.rd.mono (fun b _ hb => by have h1 := (hkl_ b hb).1; exact ⟨by omega, fun e => by have := (hBl b e).2; omega⟩), hrow_.rd.mono (fun b _ hb => by have h1 := (hrl b hb).1; exact ⟨by omega, fun e => by have := (hBl b e).2; omega⟩), hfit.out.1⟩ hrow4 hg4 hat4
                    have hE4 := (hE.trans htx).row hp.2 (fun k e => by have := (hBl k e).1; omega) (by omega) (fun b hb => by (try simp at hb); omega)
                    have hLn : Hid (∀ t L' g', RdN (nn - (i + 1)) L10 f10 t L' g' → RdN nn LL ff ((s ++ [({ a := { k := ((0 : Nat) : Int), s := (n1 : Int), n := (n2 : Int) - 1, b := (n3 : Int) - 1, m := (n4 : Int), ek := (n5 : Int), p := ⟨t6.toArray⟩, t := ⟨t7.toArray⟩, x := t8, kl := kl, cl := cl }, xA := A8, xc := c8, kA := Bk, kc := dk, cA := Bc, cc := dc } : AV)]).map AV.a ++ t) L' g') := fun t L' g' h => by
                      rw [List.map_append, List.append_assoc]
                      refine hL.out _ _ _ ?_
                      rw [show nn - i = (nn - (i + 1)) + 1 by omega]
                      exact .step HR.out h
                    have hfl := hfit.out.2
                    have hjj := hj.out
                    go_roundw
                    case rel => exact ⟨s ++ [{ a := { k := ((0 : Nat) : Int), s := (n1 : Int), n := (n2 : Int) - 1, b := (n3 : Int) - 1, m := (n4 : Int), ek := (n5 : Int), p := ⟨t6.toArray⟩, t := ⟨t7.toArray⟩, x := t8, kl := kl, cl := cl }, xA := A8, xc := c8, kA := Bk, kc := dk, cA := Bc, cc := dc }], B4, d4, i + 1, L10, f10, by simp, by go_num, by omega, hp.1, hE4, hLn, by show _ = _; rw [List.length_append, hjj]; rfl, by omega⟩
                    case measure => simp [intOf]; omega
          · have hk0 : ((n0 : Int) == 0) = false := by simp; omega
            rw [if_neg hn0] at eg
            injection eg with eg1 eg2
            subst eg1 eg2
            obtain ⟨A0_, c0_, ha0⟩ := ht0.at_
            refine (H0.out _ A0_ c0_ ha0).mono ?_
            rintro e w1 ⟨rfl, h1⟩
            (try dsimp only at h1)
            have bx1' := bx0.fr h1.fr (by omega)
            have qq : w1.cell? ⟨wq.heap.size, 0, none⟩ = some (.int .i64 0) := bx1'.cell 0
            have zz := bx1'.frozen 0
            obtain ⟨hA1, cA1, haa⟩ := h1.at_
            have e_ := haa.c1
            go_wp2_with fail
            obtain ⟨ht1, bx1, hf_⟩ := box_set (o := 0) (ht0.trans h1) bx1' (Nat.le_refl _) (by omega) hzw (.int .i64 (n0 : Int))
            simp only [List.setIfInBounds_toArray, List.set_cons_zero] at bx1
            clear qq zz hf_ bx0 bx1' h1 ht0 H0 ha0 haa e_
            generalize w1.setCell ⟨wq.heap.size, 0, none⟩ (.int .i64 (n0 : Int)) = V1 at *
            obtain ⟨A1_, c1_, ha1⟩ := ht1.at_
            refine (H1.out _ A1_ c1_ ha1).mono ?_
            rintro e w2 ⟨rfl, h2⟩
            (try dsimp only at h2)
            have bx2' := bx1.fr h2.fr (by omega)
            have qq : w2.cell? ⟨wq.heap.size, 1, none⟩ = some (.int .i64 0) := bx2'.cell 1
            have zz := bx2'.frozen 1
            go_wp2_with fail
            obtain ⟨ht2, bx2, hf_⟩ := box_set (o := 1) (ht1.trans h2) bx2' (Nat.le_refl _) (by omega) hzw (.int .i64 (n1 : Int))
            simp only [List.setIfInBounds_toArray, List.set_cons_zero, List.set_cons_succ] at bx2
            clear qq zz hf_ bx1 bx2' h2 ht1 H1 ha1
            generalize w2.setCell ⟨wq.heap.size, 1, none⟩ (.int .i64 (n1 : Int)) = V2 at *
            obtain ⟨A2_, c2_, ha2⟩ := ht2.at_
            refine (H2.out _ A2_ c2_ ha2).mono ?_
            rintro e w3 ⟨rfl, h3⟩
            (try dsimp only at h3)
            have bx3' := bx2.fr h3.fr (by omega)
            have qq : w3.cell? ⟨wq.heap.size, 2, none⟩ = some (.int .i64 0) := bx3'.cell 2
            have zz := bx3'.frozen 2
            go_wp2_with fail
            obtain ⟨ht3, bx3, hf_⟩ := box_set (o := 2) (ht2.trans h3) bx3' (Nat.le_refl _) (by omega) hzw (.int .i64 ((n2 : Int) - 1))
            simp only [List.setIfInBounds_toArray, List.set_cons_zero, List.set_cons_succ] at bx3
            clear qq zz hf_ bx2 bx3' h3 ht2 H2 ha2
            generalize w3.setCell ⟨wq.heap.size, 2, none⟩ (.int .i64 ((n2 : Int) - 1)) = V3 at *
            obtain ⟨A3_, c3_, ha3⟩ := ht3.at_
            refine (H3.out _ A3_ c3_ ha3).mono ?_
            rintro e w4 ⟨rfl, h4⟩
            (try dsimp only at h4)
            have bx4' := bx3.fr h4.fr (by omega)
            have qq : w4.cell? ⟨wq.heap.size, 3, none⟩ = some (.int .i64 0) := bx4'.cell 3
            have zz := bx4'.frozen 3
            go_wp2_with fail
            obtain ⟨ht4, bx4, hf_⟩ := box_set (o := 3) (ht3.trans h4) bx4' (Nat.le_refl _) (by omega) hzw (.int .i64 ((n3 : Int) - 1))
            simp only [List.setIfInBounds_toArray, List.set_cons_zero, List.set_cons_succ] at bx4
            clear qq zz hf_ bx3 bx4' h4 ht3 H3 ha3
            generalize w4.setCell ⟨wq.heap.size, 3, none⟩ (.int .i64 ((n3 : Int) - 1)) = V4 at *
            obtain ⟨A4_, c4_, ha4⟩ := ht4.at_
            refine (H4.out _ A4_ c4_ ha4).mono ?_
            rintro e w5 ⟨rfl, h5⟩
            (try dsimp only at h5)
            have bx5' := bx4.fr h5.fr (by omega)
            have qq : w5.cell? ⟨wq.heap.size, 4, none⟩ = some (.int .u32 0) := bx5'.cell 4
            have zz := bx5'.frozen 4
            go_wp2_with fail
            obtain ⟨ht5, bx5, hf_⟩ := box_set (o := 4) (ht4.trans h5) bx5' (Nat.le_refl _) (by omega) hzw (.int .u32 (n4 : Int))
            simp only [List.setIfInBounds_toArray, List.set_cons_zero, List.set_cons_succ] at bx5
            clear qq zz hf_ bx4 bx5' h5 ht4 H4 ha4
            generalize w5.setCell ⟨wq.heap.size, 4, none⟩ (.int .u32 (n4 : Int)) = V5 at *
            obtain ⟨A5_, c5_, ha5⟩ := ht5.at_
            refine (H5.out _ A5_ c5_ ha5).mono ?_
            rintro e w6 ⟨rfl, h6⟩
            (try dsimp only at h6)
            have bx6' := bx5.fr h6.fr (by omega)
            have qq : w6.cell? ⟨wq.heap.size, 5, none⟩ = some (.int .i64 0) := bx6'.cell 5
            have zz := bx6'.frozen 5
            go_wp2_with fail
            obtain ⟨ht6, bx6, hf_⟩ := box_set (o := 5) (ht5.trans h6) bx6' (Nat.le_refl _) (by omega) hzw (.int .i64 (n5 : Int))
            simp only [List.setIfInBounds_toArray, List.set_cons_zero, List.set_cons_succ] at bx6
            clear qq zz hf_ bx5 bx6' h6 ht5 H5 ha5
            generalize w6.setCell ⟨wq.heap.size, 5, none⟩ (.int .i64 (n5 : Int)) = V6 at *
            obtain ⟨A6_, c6_, ha6⟩ := ht6.at_
            refine (H6.out _ A6_ c6_ ha6).mono ?_
            rintro e w7 ⟨A_, n_, c_, rfl, hn_, hr_, _, _, h7⟩
            (try dsimp only at h7 hr_)
            obtain rfl : n_ = t6.length := hn_.out
            have k_ := conv_by hr_ c_
            have bx7' := bx6.fr h7.fr (by omega)
            have qq : w7.cell? ⟨wq.heap.size, 6, none⟩ = some (.string ⟨#[]⟩) := bx7'.cell 6
            have zz := bx7'.frozen 6
            go_wp2_with fail
            obtain ⟨ht7, bx7, hf_⟩ := box_set (o := 6) (ht6.trans h7) bx7' (Nat.le_refl _) (by omega) hzw (.string ⟨t6.toArray⟩)
            simp only [List.setIfInBounds_toArray, List.set_cons_zero, List.set_cons_succ] at bx7
            clear qq zz hf_ bx6 bx7' h7 ht6 H6 ha6 hr_ k_ hn_
            generalize w7.setCell ⟨wq.heap.size, 6, none⟩ (.string ⟨t6.toArray⟩) = V7 at *
            obtain ⟨A7_, c7_, ha7⟩ := ht7.at_
            refine (H7.out _ A7_ c7_ ha7).mono ?_
            rintro e w8 ⟨A_, n_, c_, rfl, hn_, hr_, _, _, h8⟩
            (try dsimp only at h8 hr_)
            obtain rfl : n_ = t7.length := hn_.out
            have k_ := conv_by hr_ c_
            have bx8' := bx7.fr h8.fr (by omega)
            have qq : w8.cell? ⟨wq.heap.size, 7, none⟩ = some (.string ⟨#[]⟩) := bx8'.cell 7
            have zz := bx8'.frozen 7
            go_wp2_with fail
            obtain ⟨ht8, bx8, hf_⟩ := box_set (o := 7) (ht7.trans h8) bx8' (Nat.le_refl _) (by omega) hzw (.string ⟨t7.toArray⟩)
            simp only [List.setIfInBounds_toArray, List.set_cons_zero, List.set_cons_succ] at bx8
            clear qq zz hf_ bx7 bx8' h8 ht7 H7 ha7 hr_ k_ hn_
            generalize w8.setCell ⟨wq.heap.size, 7, none⟩ (.string ⟨t7.toArray⟩) = V8 at *
            obtain ⟨A8_, c8_, ha8⟩ := ht8.at_
            refine (H8.out _ A8_ c8_ ha8).mono ?_
            rintro e w9 ⟨A8, n_, c8, rfl, hn_, hr_, _, _, h9⟩
            (try dsimp only at h9 hr_)
            obtain rfl : n_ = t8.length := hn_.out
            have hy9 : By w9 (fun b => b < w.heap.size) A8 t8 := hr_
            have bx9' := bx8.fr h9.fr (by omega)
            have qq : w9.cell? ⟨wq.heap.size, 8, none⟩ = some (.slice none 0 0) := bx9'.cell 8
            have zz := bx9'.frozen 8
            go_wp2_with fail
            obtain ⟨ht9, bx9, hf_⟩ := box_set (o := 8) (ht8.trans h9) bx9' (Nat.le_refl _) (by omega) hzw (.slice A8 t8.length c8)
            simp only [List.setIfInBounds_toArray, List.set_cons_zero, List.set_cons_succ] at bx9
            replace hy9 := hy9.fr hf_ (fun b _ hb e => by (try simp at hb); omega)
            clear qq zz hf_ bx8 bx9' h9 ht8 H8 ha8 hr_ hn_
            generalize w9.setCell ⟨wq.heap.size, 8, none⟩ (.slice A8 t8.length c8) = V9 at *
            obtain ⟨A_, c_, ha_⟩ := ht9.at_
            refine (H9.out _ A_ c_ ha_).mono ?_
            rintro e w9 ⟨rfl, h9⟩
            (try dsimp only at h9)
            have bxK := bx9.fr h9.fr (by omega)
            have htK := ht9.trans h9
            have hyK := hy9.fr h9.fr (fun b _ hb e => by (try simp at hb); omega)
            clear bx9 ht9 hy9 h9 H9 ha_
            go_wp2_with fail
            go_loopw [10] (fun kv wx => ∃ (sk : List KV) (Bk : Option Addr) (dk k : Nat) (Lx : List UInt8) (gx : Int), kv = .int .i64 (k : Int) ∧ k ≤ nk ∧ Hid (sk.length = k) ∧ Hid (listN keepS nk Lk gk = (sk ++ (listN keepS (nk - k) Lx gx).1, (listN keepS (nk - k) Lx gx).2)) ∧ EyeTo wq 109 w.heap.size (fun b => b < w.heap.size) Lx gx wx ∧ Blk wx wq.heap.size 57 #[.int .i64 (n0 : Int), .int .i64 (n1 : Int), .int .i64 ((n2 : Int) - 1), .int .i64 ((n3 : Int) - 1), .int .u32 (n4 : Int), .int .i64 (n5 : Int), .string ⟨t6.toArray⟩, .string ⟨t7.toArray⟩, .slice A8 t8.length c8, .slice Bk sk.length dk, .slice none 0 0] ∧ Row wx (wq.heap.size + 1) 91 2 Bk sk.length dk (sk.flatMap KV.cells) ∧ By wx (fun b => b < w.heap.size) A8 t8) (fun kv _ => nk - (intOf kv).toNat)
            case atStart => exact ⟨[], none, 0, 0, Lk, gk, rfl, Nat.zero_le _, rfl, by show _ = _; simp, htK, bxK, Row.none_ _ _ _ _, hyK⟩
            case round =>
              obtain ⟨sk, Bk, dk, k, Lx, gx, rfl, hk, hsl, hLx, htx, bxx, hrow_, hyx⟩ := hrel
              obtain ⟨wx, rfl⟩ : ∃ wx : World, wx = wr := ⟨_, rfl⟩
              obtain ⟨Ax, cx, hax⟩ := htx.at_
              have cc := hax.c1
              have sx := bxx.lt
              have hrl := hrow_.lt
              have hsb_ : sk.length ≤ 8 := by have := hsl.out; omega
              by_cases hkn : k < nk
              · by_cases hgx : gx = 0
                · subst hgx
                  obtain ⟨m1, K1, g1_, ek1⟩ : ∃ n L g, intS Lx 0 1048576 = (n, L, g) := ⟨_, _, _, rfl⟩
                  obtain ⟨m2, K2, g2_, ek2⟩ : ∃ n L g, intS K1 g1_ 1048576 = (n, L, g) := ⟨_, _, _, rfl⟩
                  have hsp : keepS Lx 0 = (⟨(m1 : Int), (m2 : Int)⟩, K2, g2_) := by unfold keepS; rw [ek1]; dsimp only; rw [ek2]
                  have J1 := Lib.hid (fun W A c h => intR_any w.heap.size (fun b => b < w.heap.size) A c Lx 0 1048576 W h hzz (by omega))
                  have J2 := Lib.hid (fun W A c h => intR_any w.heap.size (fun b => b < w.heap.size) A c K1 g1_ 1048576 W h hzz (by omega))
                  rw [ek1] at J1
                  rw [ek2] at J2
                  have hL2 : Hid (listN keepS nk Lk gk = ((sk ++ [⟨(m1 : Int), (m2 : Int)⟩]) ++ (listN keepS (nk - (k + 1)) K2 g2_).1, (listN keepS (nk - (k + 1)) K2 g2_).2)) := by
                    show _ = _
                    rw [hLx.out, show nk - k = (nk - (k + 1)) + 1 by omega, listN_ok, hsp]
                    simp
                  clear ek1 ek2 hsp hLx
                  have bX := Blk.new wx 91 #[.int .i64 0, .int .i64 0]
                  have hbX : Below wx.heap.size wx (wx.alloc (.cells #[.int .i64 0, .int .i64 0] 91)) := (by repeat (first | exact Below.refl _ _ | refine Below.alloc ?_ (by simp) _ | refine Below.setCell ?_ (by simp) _ | refine Below.drew ?_))
                  have hzX : ∀ x, (fun b => b < w.heap.size) x → x ≠ wx.heap.size := fun x hx e => by (try simp at hx); omega
                  have hqx := htx.fr.size
                  go_wp2_with fail
                  refine (J1.out _ Ax cx (hax.below hbX)).mono ?_
                  rintro e y1 ⟨rfl, i1⟩
                  (try dsimp only at i1)
                  have bX1 := bX.fr i1.fr (by omega)
                  have qq : y1.cell? ⟨wx.heap.size, 0, none⟩ = some (.int .i64 0) := bX1.cell 0
                  have zz := bX1.frozen 0
                  have tx1 := (htx.then_ hbX).trans i1
                  have F1 := (Fr.of_below hbX (fun b => b = w.heap.size)).trans i1.fr (fun _ _ h => h)
                  clear cc bX hax i1 
                  go_wp2_with fail
                  obtain ⟨tx2, bX2, hf_⟩ := box_set (o := 0) tx1 bX1 (by omega) (by omega) hzX (.int .i64 (m1 : Int))
                  simp only [List.setIfInBounds_toArray, List.set_cons_zero] at bX2
                  have F2 := F1.trans hf_ (fun x hx e => absurd e (by omega))
                  clear qq zz tx1 bX1 hf_ F1 J1 
                  generalize y1.setCell ⟨wx.heap.size, 0, none⟩ (.int .i64 (m1 : Int)) = Y1 at *
                  obtain ⟨A_, c_, ha_⟩ := tx2.at_
                  refine (J2.out _ A_ c_ ha_).mono ?_
                  rintro e y2 ⟨rfl, i2⟩
                  (try dsimp only at i2)
                  have bX3 := bX2.fr i2.fr (by omega)
                  have qq : y2.cell? ⟨wx.heap.size, 1, none⟩ = some (.int .i64 0) := bX3.cell 1
                  have zz := bX3.frozen 1
                  have q0 : y2.cell? ⟨wx.heap.size, 0, none⟩ = some (.int .i64 (m1 : Int)) := bX3.cell 0
                  obtain ⟨tx4, bX4, hf_⟩ := box_set (o := 1) (tx2.trans i2) bX3 (by omega) (by omega) hzX (.int .i64 (m2 : Int))
                  have F3 := (F2.trans i2.fr (fun _ _ h => h)).trans hf_ (fun x hx e => absurd e (by omega))
                  have b2 := bxx.fr (F2.trans i2.fr (fun _ _ h => h)) (by omega)
                  have b3 := bxx.fr F3 (by omega)
                  have row3 := hrow_.fr F3 (fun g hg e => by have := (hrl g hg).1; omega)
                  have y3 := hyx.fr F3 (fun b _ hb e => by (try simp at hb); omega)
                  have s3 := F3.size
                  have p9 : y2.cell? ⟨wq.heap.size, 9, none⟩ = some (.slice Bk sk.length dk) := b2.cell 9
                  have hneX : ¬ wq.heap.size = wx.heap.size := by omega
                  have hneX2 : ¬ wx.heap.size = wq.heap.size := by omega
                  have hBne := hrow_.ne_blk bxx (by decide)
                  obtain ⟨i1_, hi1_, hw0_, hw1_, hw2_⟩ := info_parts kv_info
                  clear tx2 bX2 bX3 i2 ha_ F2 b2 J2 hf_
                  go_wp2_with (at_builtin; (refine wpList_append_row _ rfl (.tmp 101) (.tmp 103) 54 rfl (wq.heap.size + 1) 91 i1_ _ 2 16 Try.underlying54 hi1_ hw0_ hw1_ hw2_ rfl (by omega) rfl (row3.alloc _) rfl (Rd.lit (xs := [.int .i64 (m1 : Int), .int .i64 (m2 : Int)]) (n := 1) rfl rfl (by first | rfl | simp [World.setCell])) (by simp [Value.oneCell']) (by simp only [maxLen]; omega) (by omega) (by rw [World.size_alloc]; omega) ?_; intro B4 d4 w5 hrow4 hg4 hat4; have b5 := (b3.alloc (.cells #[.int .i64 (m1 : Int), .int .i64 (m2 : Int)] 91)).grown hg4 hBne; have p5 : w5.cell? ⟨wq.heap.size, 9, none⟩ = some (.slice Bk sk.length dk) := b5.cell 9; have z5 := b5.frozen 9))
                  skip
                  have fr4 := Fr.of_grown hg4 (S := fun x => ablk Bk = some x) (fun _ _ e => e)
                  have t5 := (tx4.then_ (c := (y2.setCell ⟨wx.heap.size, 1, none⟩ (.int .i64 (m2 : Int))).alloc (.cells #[.int .i64 (m1 : Int), .int .i64 (m2 : Int)] 91)) (by repeat (first | exact Below.refl _ _ | refine Below.alloc ?_ (by simp) _ | refine Below.setCell ?_ (by simp) _ | refine Below.drew ?_))).row (B := ablk Bk) fr4 (fun x e => by have := (hrl x e).1; omega) (by omega) (fun x hx => by (try simp at hx); omega)
                  have f6 : Fr (fun x => x = wq.heap.size) w5 (w5.setCell ⟨wq.heap.size, 9, none⟩ (.slice B4 (sk.length + 1) d4)) := (Fr.refl (fun x => x = wq.heap.size) w5).setAt _ 9 rfl _
                  have b6 := b5.set_ 9 (.slice B4 (sk.length + 1) d4)
                  simp only [List.setIfInBounds_toArray, List.set_cons_zero, List.set_cons_succ] at b6
                  have r4 : Row w5 (wq.heap.size + 1) 91 2 B4 (sk ++ [(⟨(m1 : Int), (m2 : Int)⟩ : KV)]).length d4 ((sk ++ [(⟨(m1 : Int), (m2 : Int)⟩ : KV)]).flatMap KV.cells) := by
                    rw [List.length_append, List.flatMap_append, List.flatMap_cons, List.flatMap_nil, List.append_nil]
                    exact hrow4
                  have y5 := (y3.alloc (.cells #[.int .i64 (m1 : Int), .int .i64 (m2 : Int)] 91)).fr fr4 (fun b _ hb e => by have := (hrl b e).1; (try simp at hb); omega)
                  go_roundw
                  case rel => exact ⟨sk ++ [⟨(m1 : Int), (m2 : Int)⟩], B4, d4, k + 1, K2, g2_, by go_num, by omega, by show _ = _; rw [List.length_append, hsl.out]; rfl, hL2, t5.side f6 (Nat.le_refl _) (by omega) hzw, by simpa using b6, r4.fr f6 (fun g hg e => (r4.ne_blk b5 (by decide)) (by rw [hg, e])), y5.fr f6 (fun b _ hb e => by (try simp at hb); omega)⟩
                  case measure => simp [intOf]; omega
                · have hgb : (gx == 0) = false := by simpa using hgx
                  have hl_ : listN keepS nk Lk gk = (sk, Lx, gx) := by rw [hLx.out, listN_bad hgx]; simp
                  rw [HK.out] at hl_
                  injection hl_ with hl1 hl2
                  injection hl2 with hl2 hl3
                  subst hl1 hl2 hl3
                  clear hLx
                  go_wp2_with fail
                  refine (H10.out _ Ax cx hax).mono ?_
                  rintro e w10 ⟨rfl, h10⟩
                  (try dsimp only at h10)
                  have bxC := bxx.fr h10.fr (by omega)
                  have htC := htx.trans h10
                  have hyC := hyx.fr h10.fr (fun b _ hb e => by (try simp at hb); omega)
                  have hkC := hrow_.fr h10.fr (fun g hg e => by have := (hrl g hg).1; omega)
                  clear bxx htx hyx h10 hax cc sx hrl hrow_
                  obtain ⟨wk, rfl⟩ : ∃ wk : World, wk = wx := ⟨_, rfl⟩
                  go_wp2_with fail
                  go_loopw [12] (fun kv wx => ∃ (sc : List HW) (Bc : Option Addr) (dc k : Nat) (Lx : List UInt8) (gx : Int), kv = .int .i64 (k : Int) ∧ k ≤ nc ∧ Hid (sc.length = k) ∧ Hid (listN choS nc Lc gc = (sc ++ (listN choS (nc - k) Lx gx).1, (listN choS (nc - k) Lx gx).2)) ∧ EyeTo wq 109 w.heap.size (fun b => b < w.heap.size) Lx gx wx ∧ Blk wx wq.heap.size 57 #[.int .i64 (n0 : Int), .int .i64 (n1 : Int), .int .i64 ((n2 : Int) - 1), .int .i64 ((n3 : Int) - 1), .int .u32 (n4 : Int), .int .i64 (n5 : Int), .string ⟨t6.toArray⟩, .string ⟨t7.toArray⟩, .slice A8 t8.length c8, .slice Bk kl.length dk, .slice Bc sc.length dc] ∧ Row wx (wq.heap.size + 1) 95 2 Bc sc.length dc (sc.flatMap HW.cells) ∧ By wx (fun b => b < w.heap.size) A8 t8 ∧ Row wx (wq.heap.size + 1) 91 2 Bk kl.length dk (kl.flatMap KV.cells)) (fun kv _ => nc - (intOf kv).toNat)
                  case atStart => exact ⟨[], none, 0, 0, Lc, gc, rfl, Nat.zero_le _, rfl, by show _ = _; simp, htC, bxC, Row.none_ _ _ _ _, hyC, hkC⟩
                  case round =>
                    obtain ⟨sc, Bc, dc, k, Lx, gx, rfl, hk, hsl, hLx, htx, bxx, hrow_, hyx, hkx⟩ := hrel
                    obtain ⟨wx, rfl⟩ : ∃ wx : World, wx = wr := ⟨_, rfl⟩
                    obtain ⟨Ax, cx, hax⟩ := htx.at_
                    have cc := hax.c1
                    have sx := bxx.lt
                    have hrl := hrow_.lt
                    have hsb_ : sc.length ≤ 8 := by have := hsl.out; omega
                    by_cases hkn : k < nc
                    · by_cases hgx : gx = 0
                      · subst hgx
                        obtain ⟨m1, K1, g1_, ek1⟩ : ∃ n L g, textS Lx 0 96 = (n, L, g) := ⟨_, _, _, rfl⟩
                        obtain ⟨m2, K2, g2_, ek2⟩ : ∃ n L g, intS K1 g1_ 2 = (n, L, g) := ⟨_, _, _, rfl⟩
                        have hsp : choS Lx 0 = (⟨⟨m1.toArray⟩, (m2 : Int)⟩, K2, g2_) := by unfold choS; rw [ek1]; dsimp only; rw [ek2]
                        have J1 := Lib.hid (fun W A c h => textR_any w.heap.size (fun b => b < w.heap.size) A c Lx 0 96 W h hzz (by omega))
                        have J2 := Lib.hid (fun W A c h => intR_any w.heap.size (fun b => b < w.heap.size) A c K1 g1_ 2 W h hzz (by omega))
                        rw [ek1] at J1
                        rw [ek2] at J2
                        have hL2 : Hid (listN choS nc Lc gc = ((sc ++ [⟨⟨m1.toArray⟩, (m2 : Int)⟩]) ++ (listN choS (nc - (k + 1)) K2 g2_).1, (listN choS (nc - (k + 1)) K2 g2_).2)) := by
                          show _ = _
                          rw [hLx.out, show nc - k = (nc - (k + 1)) + 1 by omega, listN_ok, hsp]
                          simp
                        clear ek1 ek2 hsp hLx
                        have bX := Blk.new wx 95 #[.string ⟨#[]⟩, .int .i64 0]
                        have hbX : Below wx.heap.size wx (wx.alloc (.cells #[.string ⟨#[]⟩, .int .i64 0] 95)) := (by repeat (first | exact Below.refl _ _ | refine Below.alloc ?_ (by simp) _ | refine Below.setCell ?_ (by simp) _ | refine Below.drew ?_))
                        have hzX : ∀ x, (fun b => b < w.heap.size) x → x ≠ wx.heap.size := fun x hx e => by (try simp at hx); omega
                        have hqx := htx.fr.size
                        go_wp2_with fail
                        refine (J1.out _ Ax cx (hax.below hbX)).mono ?_
                        rintro e y1 ⟨A_, n_, c_, rfl, hn_, hr_, _, _, i1⟩
                        (try dsimp only at i1 hr_)
                        obtain rfl : n_ = m1.length := hn_.out
                        have k_ := conv_by hr_ c_
                        have bX1 := bX.fr i1.fr (by omega)
                        have qq : y1.cell? ⟨wx.heap.size, 0, none⟩ = some (.string ⟨#[]⟩) := bX1.cell 0
                        have zz := bX1.frozen 0
                        have tx1 := (htx.then_ hbX).trans i1
                        have F1 := (Fr.of_below hbX (fun b => b = w.heap.size)).trans i1.fr (fun _ _ h => h)
                        clear cc bX hax i1 hr_ hn_
                        go_wp2_with fail
                        obtain ⟨tx2, bX2, hf_⟩ := box_set (o := 0) tx1 bX1 (by omega) (by omega) hzX (.string ⟨m1.toArray⟩)
                        simp only [List.setIfInBounds_toArray, List.set_cons_zero] at bX2
                        have F2 := F1.trans hf_ (fun x hx e => absurd e (by omega))
                        clear qq zz tx1 bX1 hf_ F1 J1 k_
                        generalize y1.setCell ⟨wx.heap.size, 0, none⟩ (.string ⟨m1.toArray⟩) = Y1 at *
                        obtain ⟨A_, c_, ha_⟩ := tx2.at_
                        refine (J2.out _ A_ c_ ha_).mono ?_
                        rintro e y2 ⟨rfl, i2⟩
                        (try dsimp only at i2)
                        have bX3 := bX2.fr i2.fr (by omega)
                        have qq : y2.cell? ⟨wx.heap.size, 1, none⟩ = some (.int .i64 0) := bX3.cell 1
                        have zz := bX3.frozen 1
                        have q0 : y2.cell? ⟨wx.heap.size, 0, none⟩ = some (.string ⟨m1.toArray⟩) := bX3.cell 0
                        obtain ⟨tx4, bX4, hf_⟩ := box_set (o := 1) (tx2.trans i2) bX3 (by omega) (by omega) hzX (.int .i64 (m2 : Int))
                        have F3 := (F2.trans i2.fr (fun _ _ h => h)).trans hf_ (fun x hx e => absurd e (by omega))
                        have b2 := bxx.fr (F2.trans i2.fr (fun _ _ h => h)) (by omega)
                        have b3 := bxx.fr F3 (by omega)
                        have row3 := hrow_.fr F3 (fun g hg e => by have := (hrl g hg).1; omega)
                        have y3 := hyx.fr F3 (fun b _ hb e => by (try simp at hb); omega)
                        have k3 := hkx.fr F3 (fun g hg e => by have := (hkx.lt g hg).1; omega)
                        have s3 := F3.size
                        have p9 : y2.cell? ⟨wq.heap.size, 10, none⟩ = some (.slice Bc sc.length dc) := b2.cell 10
                        have hneX : ¬ wq.heap.size = wx.heap.size := by omega
                        have hneX2 : ¬ wx.heap.size = wq.heap.size := by omega
                        have hBne := hrow_.ne_blk bxx (by decide)
                        obtain ⟨i1_, hi1_, hw0_, hw1_, hw2_⟩ := info_parts hw_info
                        clear tx2 bX2 bX3 i2 ha_ F2 b2 J2 hf_
                        go_wp2_with (at_builtin; (refine wpList_append_row _ rfl (.tmp 128) (.tmp 130) 55 rfl (wq.heap.size + 1) 95 i1_ _ 2 24 Try.underlying55 hi1_ hw0_ hw1_ hw2_ rfl (by omega) rfl (row3.alloc _) rfl (Rd.lit (xs := [.string ⟨m1.toArray⟩, .int .i64 (m2 : Int)]) (n := 1) rfl rfl (by first | rfl | simp [World.setCell])) (by simp [Value.oneCell']) (by simp only [maxLen]; omega) (by omega) (by rw [World.size_alloc]; omega) ?_; intro B4 d4 w5 hrow4 hg4 hat4; have b5 := (b3.alloc (.cells #[.string ⟨m1.toArray⟩, .int .i64 (m2 : Int)] 95)).grown hg4 hBne; have p5 : w5.cell? ⟨wq.heap.size, 10, none⟩ = some (.slice Bc sc.length dc) := b5.cell 10; have z5 := b5.frozen 10; have k5 := (k3.alloc (.cells #[.string ⟨m1.toArray⟩, .int .i64 (m2 : Int)] 95)).fr (Fr.of_grown hg4 (S := fun x => ablk Bc = some x) (fun _ _ e => e)) (fun g hg e => Row.ne_row k3 row3 (by decide) g hg e)))
                        skip
                        have fr4 := Fr.of_grown hg4 (S := fun x => ablk Bc = some x) (fun _ _ e => e)
                        have t5 := (tx4.then_ (c := (y2.setCell ⟨wx.heap.size, 1, none⟩ (.int .i64 (m2 : Int))).alloc (.cells #[.string ⟨m1.toArray⟩, .int .i64 (m2 : Int)] 95)) (by repeat (first | exact Below.refl _ _ | refine Below.alloc ?_ (by simp) _ | refine Below.setCell ?_ (by simp) _ | refine Below.drew ?_))).row (B := ablk Bc) fr4 (fun x e => by have := (hrl x e).1; omega) (by omega) (fun x hx => by (try simp at hx); omega)
                        have f6 : Fr (fun x => x = wq.heap.size) w5 (w5.setCell ⟨wq.heap.size, 10, none⟩ (.slice B4 (sc.length + 1) d4)) := (Fr.refl (fun x => x = wq.heap.size) w5).setAt _ 10 rfl _
                        have b6 := b5.set_ 10 (.slice B4 (sc.length + 1) d4)
                        simp only [List.setIfInBounds_toArray, List.set_cons_zero, List.set_cons_succ] at b6
                        have r4 : Row w5 (wq.heap.size + 1) 95 2 B4 (sc ++ [(⟨⟨m1.toArray⟩, (m2 : Int)⟩ : HW)]).length d4 ((sc ++ [(⟨⟨m1.toArray⟩, (m2 : Int)⟩ : HW)]).flatMap HW.cells) := by
                          rw [List.length_append, List.flatMap_append, List.flatMap_cons, List.flatMap_nil, List.append_nil]
                          exact hrow4
                        have y5 := (y3.alloc (.cells #[.string ⟨m1.toArray⟩, .int .i64 (m2 : Int)] 95)).fr fr4 (fun b _ hb e => by have := (hrl b e).1; (try simp at hb); omega)
                        go_roundw
                        case rel => exact ⟨sc ++ [⟨⟨m1.toArray⟩, (m2 : Int)⟩], B4, d4, k + 1, K2, g2_, by go_num, by omega, by show _ = _; rw [List.length_append, hsl.out]; rfl, hL2, t5.side f6 (Nat.le_refl _) (by omega) hzw, by simpa using b6, r4.fr f6 (fun g hg e => (r4.ne_blk b5 (by decide)) (by rw [hg, e])), y5.fr f6 (fun b _ hb e => by (try simp at hb); omega), k5.fr f6 (fun g hg e => (k5.ne_blk b5 (by decide)) (by rw [hg, e]))⟩
                        case measure => simp [intOf]; omega
                      · have hgb : (gx == 0) = false := by simpa using hgx
                        have hl_ : listN choS nc Lc gc = (sc, Lx, gx) := by rw [hLx.out, listN_bad hgx]; simp
                        rw [HCH.out] at hl_
                        injection hl_ with hl1 hl2
                        injection hl2 with hl2 hl3
                        subst hl1 hl2 hl3
                        clear hLx
                        have rowA := hrow.fr htx.fr (fun g hg e => by have := (hBl g hg).1; omega) (fun b _ hz _ e => hz e)
                        have r0 : wx.cell? ⟨wq.heap.size, 0, none⟩ = some (.int .i64 (n0 : Int)) := bxx.cell 0
                        have r1 : wx.cell? ⟨wq.heap.size, 1, none⟩ = some (.int .i64 (n1 : Int)) := bxx.cell 1
                        have r2 : wx.cell? ⟨wq.heap.size, 2, none⟩ = some (.int .i64 ((n2 : Int) - 1)) := bxx.cell 2
                        have r3 : wx.cell? ⟨wq.heap.size, 3, none⟩ = some (.int .i64 ((n3 : Int) - 1)) := bxx.cell 3
                        have r4 : wx.cell? ⟨wq.heap.size, 4, none⟩ = some (.int .u32 (n4 : Int)) := bxx.cell 4
                        have r5 : wx.cell? ⟨wq.heap.size, 5, none⟩ = some (.int .i64 (n5 : Int)) := bxx.cell 5
                        have r6 : wx.cell? ⟨wq.heap.size, 6, none⟩ = some (.string ⟨t6.toArray⟩) := bxx.cell 6
                        have r7 : wx.cell? ⟨wq.heap.size, 7, none⟩ = some (.string ⟨t7.toArray⟩) := bxx.cell 7
                        have r8 : wx.cell? ⟨wq.heap.size, 8, none⟩ = some (.slice A8 t8.length c8) := bxx.cell 8
                        have r9 : wx.cell? ⟨wq.heap.size, 9, none⟩ = some (.slice Bk kl.length dk) := bxx.cell 9
                        have r10 : wx.cell? ⟨wq.heap.size, 10, none⟩ = some (.slice Bc cl.length dc) := bxx.cell 10
                        have hkl_ := hkx.lt
                        have hqx := htx.fr.size
                        clear hax
                        go_wp2_with (at_builtin; refine wpList_append_row _ rfl (.tmp 133) (.tmp 135) 50 rfl (w.heap.size + 1) 57 i0 _ 11 152 Try.underlying50 hi0 hz0 hz1 hz2 rfl (by omega) rfl (rowA.row.alloc _) rfl (Rd.lit (xs := [.int .i64 (n0 : Int), .int .i64 (n1 : Int), .int .i64 ((n2 : Int) - 1), .int .i64 ((n3 : Int) - 1), .int .u32 (n4 : Int), .int .i64 (n5 : Int), .string ⟨t6.toArray⟩, .string ⟨t7.toArray⟩, .slice A8 t8.length c8, .slice Bk kl.length dk, .slice Bc cl.length dc]) (n := 1) rfl rfl rfl) (by simp [Value.oneCell']) (by simp only [maxLen]; omega) (by omega) (by rw [World.size_alloc]; omega) ?_; intro B4 d4 w4 hrow4 hg4 hat4)
                        have hp := rowA.push (v := { a := { k := (n0 : Int), s := (n1 : Int), n := (n2 : Int) - 1, b := (n3 : Int) - 1, m := (n4 : Int), ek := (n5 : Int), p := ⟨t6.toArray⟩, t := ⟨t7.toArray⟩, x := t8, kl := kl, cl := cl }, xA := A8, xc := c8, kA := Bk, kc := dk, cA := Bc, cc := dc }) ⟨hyx.mono (fun b _ hb => ⟨by (try simp at hb); omega, fun e => by have := (hBl b e).1; (try simp at hb); omega⟩), hkx.rd.mono (fun b _ hb => by have h1 := (hkl_ b hb).1; exact ⟨by omega, fun e => by have := (hBl b e).2; omega⟩), hrow_.rd.mono (fun b _ hb => by have h1 := (hrl b hb).1; exact ⟨by omega, fun e => by have := (hBl b e).2; omega⟩), hfit.out.1⟩ hrow4 hg4 hat4
                        have hE4 := (hE.trans htx).row hp.2 (fun k e => by have := (hBl k e).1; omega) (by omega) (fun b hb => by (try simp at hb); omega)
                        have hLn : Hid (∀ t L' g', RdN (nn - (i + 1)) L10 f10 t L' g' → RdN nn LL ff ((s ++ [({ a := { k := (n0 : Int), s := (n1 : Int), n := (n2 : Int) - 1, b := (n3 : Int) - 1, m := (n4 : Int), ek := (n5 : Int), p := ⟨t6.toArray⟩, t := ⟨t7.toArray⟩, x := t8, kl := kl, cl := cl }, xA := A8, xc := c8, kA := Bk, kc := dk, cA := Bc, cc := dc } : AV)]).map AV.a ++ t) L' g') := fun t L' g' h => by
                          rw [List.map_append, List.append_assoc]
                          refine hL.out _ _ _ ?_
                          rw [show nn - i = (nn - (i + 1)) + 1 by omega]
                          exact .step HR.out h
                        have hfl := hfit.out.2
                        have hjj := hj.out
                        go_roundw
                        case rel => exact ⟨s ++ [{ a := { k := (n0 : Int), s := (n1 : Int), n := (n2 : Int) - 1, b := (n3 : Int) - 1, m := (n4 : Int), ek := (n5 : Int), p := ⟨t6.toArray⟩, t := ⟨t7.toArray⟩, x := t8, kl := kl, cl := cl }, xA := A8, xc := c8, kA := Bk, kc := dk, cA := Bc, cc := dc }], B4, d4, i + 1, L10, f10, by simp, by go_num, by omega, hp.1, hE4, hLn, by show _ = _; rw [List.length_append, hjj]; rfl, by omega⟩
                        case measure => simp [intOf]; omega
                    · obtain rfl : k = nc := by omega
                      have hl_ : listN choS k Lc gc = (sc, Lx, gx) := by rw [hLx.out, Nat.sub_self]; simp [listN]
                      rw [HCH.out] at hl_
                      injection hl_ with hl1 hl2
                      injection hl2 with hl2 hl3
                      subst hl1 hl2 hl3
                      clear hLx
                      have rowA := hrow.fr htx.fr (fun g hg e => by have := (hBl g hg).1; omega) (fun b _ hz _ e => hz e)
                      have r0 : wx.cell? ⟨wq.heap.size, 0, none⟩ = some (.int .i64 (n0 : Int)) := bxx.cell 0
                      have r1 : wx.cell? ⟨wq.heap.size, 1, none⟩ = some (.int .i64 (n1 : Int)) := bxx.cell 1
                      have r2 : wx.cell? ⟨wq.heap.size, 2, none⟩ = some (.int .i64 ((n2 : Int) - 1)) := bxx.cell 2
                      have r3 : wx.cell? ⟨wq.heap.size, 3, none⟩ = some (.int .i64 ((n3 : Int) - 1)) := bxx.cell 3
                      have r4 : wx.cell? ⟨wq.heap.size, 4, none⟩ = some (.int .u32 (n4 : Int)) := bxx.cell 4
                      have r5 : wx.cell? ⟨wq.heap.size, 5, none⟩ = some (.int .i64 (n5 : Int)) := bxx.cell 5
                      have r6 : wx.cell? ⟨wq.heap.size, 6, none⟩ = some (.string ⟨t6.toArray⟩) := bxx.cell 6
                      have r7 : wx.cell? ⟨wq.heap.size, 7, none⟩ = some (.string ⟨t7.toArray⟩) := bxx.cell 7
                      have r8 : wx.cell? ⟨wq.heap.size, 8, none⟩ = some (.slice A8 t8.length c8) := bxx.cell 8
                      have r9 : wx.cell? ⟨wq.heap.size, 9, none⟩ = some (.slice Bk kl.length dk) := bxx.cell 9
                      have r10 : wx.cell? ⟨wq.heap.size, 10, none⟩ = some (.slice Bc cl.length dc) := bxx.cell 10
                      have hkl_ := hkx.lt
                      have hqx := htx.fr.size
                      clear hax
                      go_wp2_with (at_builtin; refine wpList_append_row _ rfl (.tmp 133) (.tmp 135) 50 rfl (w.heap.size + 1) 57 i0 _ 11 152 Try.underlying50 hi0 hz0 hz1 hz2 rfl (by omega) rfl (rowA.row.alloc _) rfl (Rd.lit (xs := [.int .i64 (n0 : Int), .int .i64 (n1 : Int), .int .i64 ((n2 : Int) - 1), .int .i64 ((n3 : Int) - 1), .int .u32 (n4 : Int), .int .i64 (n5 : Int), .string ⟨t6.toArray⟩, .string ⟨t7.toArray⟩, .slice A8 t8.length c8, .slice Bk kl.length dk, .slice Bc cl.length dc]) (n := 1) rfl rfl rfl) (by simp [Value.oneCell']) (by simp only [maxLen]; omega) (by omega) (by rw [World.size_alloc]; omega) ?_; intro B4 d4 w4 hrow4 hg4 hat4)
                      have hp := rowA.push (v := { a := { k := (n0 : Int), s := (n1 : Int), n := (n2 : Int) - 1, b := (n3 : Int) - 1, m := (n4 : Int), ek := (n5 : Int), p := ⟨t6.toArray⟩, t := ⟨t7.toArray⟩, x := t8, kl := kl, cl := cl }, xA := A8, xc := c8, kA := Bk, kc := dk, cA := Bc, cc := dc }) ⟨hyx.mono (fun b _ hb => ⟨by (try simp at hb); omega, fun e => by have := (hBl b e).1; (try simp at hb); omega⟩), hkx.rd.mono (fun b _ hb => by have h1 := (hkl_ b hb).1; exact ⟨by omega, fun e => by have := (hBl b e).2; omega⟩), hrow_.rd.mono (fun b _ hb => by have h1 := (hrl b hb).1; exact ⟨by omega, fun e => by have := (hBl b e).2; omega⟩), hfit.out.1⟩ hrow4 hg4 hat4
                      have hE4 := (hE.trans htx).row hp.2 (fun k e => by have := (hBl k e).1; omega) (by omega) (fun b hb => by (try simp at hb); omega)
                      have hLn : Hid (∀ t L' g', RdN (nn - (i + 1)) L10 f10 t L' g' → RdN nn LL ff ((s ++ [({ a := { k := (n0 : Int), s := (n1 : Int), n := (n2 : Int) - 1, b := (n3 : Int) - 1, m := (n4 : Int), ek := (n5 : Int), p := ⟨t6.toArray⟩, t := ⟨t7.toArray⟩, x := t8, kl := kl, cl := cl }, xA := A8, xc := c8, kA := Bk, kc := dk, cA := Bc, cc := dc } : AV)]).map AV.a ++ t) L' g') := fun t L' g' h => by
                        rw [List.map_append, List.append_assoc]
                        refine hL.out _ _ _ ?_
                        rw [show nn - i = (nn - (i + 1)) + 1 by omega]
                        exact .step HR.out h
                      have hfl := hfit.out.2
                      have hjj := hj.out
                      go_roundw
                      case rel => exact ⟨s ++ [{ a := { k := (n0 : Int), s := (n1 : Int), n := (n2 : Int) - 1, b := (n3 : Int) - 1, m := (n4 : Int), ek := (n5 : Int), p := ⟨t6.toArray⟩, t := ⟨t7.toArray⟩, x := t8, kl := kl, cl := cl }, xA := A8, xc := c8, kA := Bk, kc := dk, cA := Bc, cc := dc }], B4, d4, i + 1, L10, f10, by simp, by go_num, by omega, hp.1, hE4, hLn, by show _ = _; rw [List.length_append, hjj]; rfl, by omega⟩
                      case measure => simp [intOf]; omega
              · obtain rfl : k = nk := by omega
                have hl_ : listN keepS k Lk gk = (sk, Lx, gx) := by rw [hLx.out, Nat.sub_self]; simp [listN]
                rw [HK.out] at hl_
                injection hl_ with hl1 hl2
                injection hl2 with hl2 hl3
                subst hl1 hl2 hl3
                clear hLx
                go_wp2_with fail
                refine (H10.out _ Ax cx hax).mono ?_
                rintro e w10 ⟨rfl, h10⟩
                (try dsimp only at h10)
                have bxC := bxx.fr h10.fr (by omega)
                have htC := htx.trans h10
                have hyC := hyx.fr h10.fr (fun b _ hb e => by (try simp at hb); omega)
                have hkC := hrow_.fr h10.fr (fun g hg e => by have := (hrl g hg).1; omega)
                clear bxx htx hyx h10 hax cc sx hrl hrow_
                obtain ⟨wk, rfl⟩ : ∃ wk : World, wk = wx := ⟨_, rfl⟩
                go_wp2_with fail
                go_loopw [12] (fun kv wx => ∃ (sc : List HW) (Bc : Option Addr) (dc k : Nat) (Lx : List UInt8) (gx : Int), kv = .int .i64 (k : Int) ∧ k ≤ nc ∧ Hid (sc.length = k) ∧ Hid (listN choS nc Lc gc = (sc ++ (listN choS (nc - k) Lx gx).1, (listN choS (nc - k) Lx gx).2)) ∧ EyeTo wq 109 w.heap.size (fun b => b < w.heap.size) Lx gx wx ∧ Blk wx wq.heap.size 57 #[.int .i64 (n0 : Int), .int .i64 (n1 : Int), .int .i64 ((n2 : Int) - 1), .int .i64 ((n3 : Int) - 1), .int .u32 (n4 : Int), .int .i64 (n5 : Int), .string ⟨t6.toArray⟩, .string ⟨t7.toArray⟩, .slice A8 t8.length c8, .slice Bk kl.length dk, .slice Bc sc.length dc] ∧ Row wx (wq.heap.size + 1) 95 2 Bc sc.length dc (sc.flatMap HW.cells) ∧ By wx (fun b => b < w.heap.size) A8 t8 ∧ Row wx (wq.heap.size + 1) 91 2 Bk kl.length dk (kl.flatMap KV.cells)) (fun kv _ => nc - (intOf kv).toNat)
                case atStart => exact ⟨[], none, 0, 0, Lc, gc, rfl, Nat.zero_le _, rfl, by show _ = _; simp, htC, bxC, Row.none_ _ _ _ _, hyC, hkC⟩
                case round =>
                  obtain ⟨sc, Bc, dc, k, Lx, gx, rfl, hk, hsl, hLx, htx, bxx, hrow_, hyx, hkx⟩ := hrel
                  obtain ⟨wx, rfl⟩ : ∃ wx : World, wx = wr := ⟨_, rfl⟩
                  obtain ⟨Ax, cx, hax⟩ := htx.at_
                  have cc := hax.c1
                  have sx := bxx.lt
                  have hrl := hrow_.lt
                  have hsb_ : sc.length ≤ 8 := by have := hsl.out; omega
                  by_cases hkn : k < nc
                  · by_cases hgx : gx = 0
                    · subst hgx
                      obtain ⟨m1, K1, g1_, ek1⟩ : ∃ n L g, textS Lx 0 96 = (n, L, g) := ⟨_, _, _, rfl⟩
                      obtain ⟨m2, K2, g2_, ek2⟩ : ∃ n L g, intS K1 g1_ 2 = (n, L, g) := ⟨_, _, _, rfl⟩
                      have hsp : choS Lx 0 = (⟨⟨m1.toArray⟩, (m2 : Int)⟩, K2, g2_) := by unfold choS; rw [ek1]; dsimp only; rw [ek2]
                      have J1 := Lib.hid (fun W A c h => textR_any w.heap.size (fun b => b < w.heap.size) A c Lx 0 96 W h hzz (by omega))
                      have J2 := Lib.hid (fun W A c h => intR_any w.heap.size (fun b => b < w.heap.size) A c K1 g1_ 2 W h hzz (by omega))
                      rw [ek1] at J1
                      rw [ek2] at J2
                      have hL2 : Hid (listN choS nc Lc gc = ((sc ++ [⟨⟨m1.toArray⟩, (m2 : Int)⟩]) ++ (listN choS (nc - (k + 1)) K2 g2_).1, (listN choS (nc - (k + 1)) K2 g2_).2)) := by
                        show _ = _
                        rw [hLx.out, show nc - k = (nc - (k + 1)) + 1 by omega, listN_ok, hsp]
                        simp
                      clear ek1 ek2 hsp hLx
                      have bX := Blk.new wx 95 #[.string ⟨#[]⟩, .int .i64 0]
                      have hbX : Below wx.heap.size wx (wx.alloc (.cells #[.string ⟨#[]⟩, .int .i64 0] 95)) := (by repeat (first | exact Below.refl _ _ | refine Below.alloc ?_ (by simp) _ | refine Below.setCell ?_ (by simp) _ | refine Below.drew ?_))
                      have hzX : ∀ x, (fun b => b < w.heap.size) x → x ≠ wx.heap.size := fun x hx e => by (try simp at hx); omega
                      have hqx := htx.fr.size
                      go_wp2_with fail
                      refine (J1.out _ Ax cx (hax.below hbX)).mono ?_
                      rintro e y1 ⟨A_, n_, c_, rfl, hn_, hr_, _, _, i1⟩
                      (try dsimp only at i1 hr_)
                      obtain rfl : n_ = m1.length := hn_.out
                      have k_ := conv_by hr_ c_
                      have bX1 := bX.fr i1.fr (by omega)
                      have qq : y1.cell? ⟨wx.heap.size, 0, none⟩ = some (.string ⟨#[]⟩) := bX1.cell 0
                      have zz := bX1.frozen 0
                      have tx1 := (htx.then_ hbX).trans i1
                      have F1 := (Fr.of_below hbX (fun b => b = w.heap.size)).trans i1.fr (fun _ _ h => h)
                      clear cc bX hax i1 hr_ hn_
                      go_wp2_with fail
                      obtain ⟨tx2, bX2, hf_⟩ := box_set (o := 0) tx1 bX1 (by omega) (by omega) hzX (.string ⟨m1.toArray⟩)
                      simp only [List.setIfInBounds_toArray, List.set_cons_zero] at bX2
                      have F2 := F1.trans hf_ (fun x hx e => absurd e (by omega))
                      clear qq zz tx1 bX1 hf_ F1 J1 k_
                      generalize y1.setCell ⟨wx.heap.size, 0, none⟩ (.string ⟨m1.toArray⟩) = Y1 at *
                      obtain ⟨A_, c_, ha_⟩ := tx2.at_
                      refine (J2.out _ A_ c_ ha_).mono ?_
                      rintro e y2 ⟨rfl, i2⟩
                      (try dsimp only at i2)
                      have bX3 := bX2.fr i2.fr (by omega)
                      have qq : y2.cell? ⟨wx.heap.size, 1, none⟩ = some (.int .i64 0) := bX3.cell 1
                      have zz := bX3.frozen 1
                      have q0 : y2.cell? ⟨wx.heap.size, 0, none⟩ = some (.string ⟨m1.toArray⟩) := bX3.cell 0
                      obtain ⟨tx4, bX4, hf_⟩ := box_set (o := 1) (tx2.trans i2) bX3 (by omega) (by omega) hzX (.int .i64 (m2 : Int))
                      have F3 := (F2.trans i2.fr (fun _ _ h => h)).trans hf_ (fun x hx e => absurd e (by omega))
                      have b2 := bxx.fr (F2.trans i2.fr (fun _ _ h => h)) (by omega)
                      have b3 := bxx.fr F3 (by omega)
                      have row3 := hrow_.fr F3 (fun g hg e => by have := (hrl g hg).1; omega)
                      have y3 := hyx.fr F3 (fun b _ hb e => by (try simp at hb); omega)
                      have k3 := hkx.fr F3 (fun g hg e => by have := (hkx.lt g hg).1; omega)
                      have s3 := F3.size
                      have p9 : y2.cell? ⟨wq.heap.size, 10, none⟩ = some (.slice Bc sc.length dc) := b2.cell 10
                      have hneX : ¬ wq.heap.size = wx.heap.size := by omega
                      have hneX2 : ¬ wx.heap.size = wq.heap.size := by omega
                      have hBne := hrow_.ne_blk bxx (by decide)
                      obtain ⟨i1_, hi1_, hw0_, hw1_, hw2_⟩ := info_parts hw_info
                      clear tx2 bX2 bX3 i2 ha_ F2 b2 J2 hf_
                      go_wp2_with (at_builtin; (refine wpList_append_row _ rfl (.tmp 128) (.tmp 130) 55 rfl (wq.heap.size + 1) 95 i1_ _ 2 24 Try.underlying55 hi1_ hw0_ hw1_ hw2_ rfl (by omega) rfl (row3.alloc _) rfl (Rd.lit (xs := [.string ⟨m1.toArray⟩, .int .i64 (m2 : Int)]) (n := 1) rfl rfl (by first | rfl | simp [World.setCell])) (by simp [Value.oneCell']) (by simp only [maxLen]; omega) (by omega) (by rw [World.size_alloc]; omega) ?_; intro B4 d4 w5 hrow4 hg4 hat4; have b5 := (b3.alloc (.cells #[.string ⟨m1.toArray⟩, .int .i64 (m2 : Int)] 95)).grown hg4 hBne; have p5 : w5.cell? ⟨wq.heap.size, 10, none⟩ = some (.slice Bc sc.length dc) := b5.cell 10; have z5 := b5.frozen 10; have k5 := (k3.alloc (.cells #[.string ⟨m1.toArray⟩, .int .i64 (m2 : Int)] 95)).fr (Fr.of_grown hg4 (S := fun x => ablk Bc = some x) (fun _ _ e => e)) (fun g hg e => Row.ne_row k3 row3 (by decide) g hg e)))
                      skip
                      have fr4 := Fr.of_grown hg4 (S := fun x => ablk Bc = some x) (fun _ _ e => e)
                      have t5 := (tx4.then_ (c := (y2.setCell ⟨wx.heap.size, 1, none⟩ (.int .i64 (m2 : Int))).alloc (.cells #[.string ⟨m1.toArray⟩, .int .i64 (m2 : Int)] 95)) (by repeat (first | exact Below.refl _ _ | refine Below.alloc ?_ (by simp) _ | refine Below.setCell ?_ (by simp) _ | refine Below.drew ?_))).row (B := ablk Bc) fr4 (fun x e => by have := (hrl x e).1; omega) (by omega) (fun x hx => by (try simp at hx); omega)
                      have f6 : Fr (fun x => x = wq.heap.size) w5 (w5.setCell ⟨wq.heap.size, 10, none⟩ (.slice B4 (sc.length + 1) d4)) := (Fr.refl (fun x => x = wq.heap.size) w5).setAt _ 10 rfl _
                      have b6 := b5.set_ 10 (.slice B4 (sc.length + 1) d4)
                      simp only [List.setIfInBounds_toArray, List.set_cons_zero, List.set_cons_succ] at b6
                      have r4 : Row w5 (wq.heap.size + 1) 95 2 B4 (sc ++ [(⟨⟨m1.toArray⟩, (m2 : Int)⟩ : HW)]).length d4 ((sc ++ [(⟨⟨m1.toArray⟩, (m2 : Int)⟩ : HW)]).flatMap HW.cells) := by
                        rw [List.length_append, List.flatMap_append, List.flatMap_cons, List.flatMap_nil, List.append_nil]
                        exact hrow4
                      have y5 := (y3.alloc (.cells #[.string ⟨m1.toArray⟩, .int .i64 (m2 : Int)] 95)).fr fr4 (fun b _ hb e => by have := (hrl b e).1; (try simp at hb); omega)
                      go_roundw
                      case rel => exact ⟨sc ++ [⟨⟨m1.toArray⟩, (m2 : Int)⟩], B4, d4, k + 1, K2, g2_, by go_num, by omega, by show _ = _; rw [List.length_append, hsl.out]; rfl, hL2, t5.side f6 (Nat.le_refl _) (by omega) hzw, by simpa using b6, r4.fr f6 (fun g hg e => (r4.ne_blk b5 (by decide)) (by rw [hg, e])), y5.fr f6 (fun b _ hb e => by (try simp at hb); omega), k5.fr f6 (fun g hg e => (k5.ne_blk b5 (by decide)) (by rw [hg, e]))⟩
                      case measure => simp [intOf]; omega
                    · have hgb : (gx == 0) = false := by simpa using hgx
                      have hl_ : listN choS nc Lc gc = (sc, Lx, gx) := by rw [hLx.out, listN_bad hgx]; simp
                      rw [HCH.out] at hl_
                      injection hl_ with hl1 hl2
                      injection hl2 with hl2 hl3
                      subst hl1 hl2 hl3
                      clear hLx
                      have rowA := hrow.fr htx.fr (fun g hg e => by have := (hBl g hg).1; omega) (fun b _ hz _ e => hz e)
                      have r0 : wx.cell? ⟨wq.heap.size, 0, none⟩ = some (.int .i64 (n0 : Int)) := bxx.cell 0
                      have r1 : wx.cell? ⟨wq.heap.size, 1, none⟩ = some (.int .i64 (n1 : Int)) := bxx.cell 1
                      have r2 : wx.cell? ⟨wq.heap.size, 2, none⟩ = some (.int .i64 ((n2 : Int) - 1)) := bxx.cell 2
                      have r3 : wx.cell? ⟨wq.heap.size, 3, none⟩ = some (.int .i64 ((n3 : Int) - 1)) := bxx.cell 3
                      have r4 : wx.cell? ⟨wq.heap.size, 4, none⟩ = some (.int .u32 (n4 : Int)) := bxx.cell 4
                      have r5 : wx.cell? ⟨wq.heap.size, 5, none⟩ = some (.int .i64 (n5 : Int)) := bxx.cell 5
                      have r6 : wx.cell? ⟨wq.heap.size, 6, none⟩ = some (.string ⟨t6.toArray⟩) := bxx.cell 6
                      have r7 : wx.cell? ⟨wq.heap.size, 7, none⟩ = some (.string ⟨t7.toArray⟩) := bxx.cell 7
                      have r8 : wx.cell? ⟨wq.heap.size, 8, none⟩ = some (.slice A8 t8.length c8) := bxx.cell 8
                      have r9 : wx.cell? ⟨wq.heap.size, 9, none⟩ = some (.slice Bk kl.length dk) := bxx.cell 9
                      have r10 : wx.cell? ⟨wq.heap.size, 10, none⟩ = some (.slice Bc cl.length dc) := bxx.cell 10
                      have hkl_ := hkx.lt
                      have hqx := htx.fr.size
                      clear hax
                      go_wp2_with (at_builtin; refine wpList_append_row _ rfl (.tmp 133) (.tmp 135) 50 rfl (w.heap.size + 1) 57 i0 _ 11 152 Try.underlying50 hi0 hz0 hz1 hz2 rfl (by omega) rfl (rowA.row.alloc _) rfl (Rd.lit (xs := [.int .i64 (n0 : Int), .int .i64 (n1 : Int), .int .i64 ((n2 : Int) - 1), .int .i64 ((n3 : Int) - 1), .int .u32 (n4 : Int), .int .i64 (n5 : Int), .string ⟨t6.toArray⟩, .string ⟨t7.toArray⟩, .slice A8 t8.length c8, .slice Bk kl.length dk, .slice Bc cl.length dc]) (n := 1) rfl rfl rfl) (by simp [Value.oneCell']) (by simp only [maxLen]; omega) (by omega) (by rw [World.size_alloc]; omega) ?_; intro B4 d4 w4 hrow4 hg4 hat4)
                      have hp := rowA.push (v := { a := { k := (n0 : Int), s := (n1 : Int), n := (n2 : Int) - 1, b := (n3 : Int) - 1, m := (n4 : Int), ek := (n5 : Int), p := ⟨t6.toArray⟩, t := ⟨t7.toArray⟩, x := t8, kl := kl, cl := cl }, xA := A8, xc := c8, kA := Bk, kc := dk, cA := Bc, cc := dc }) ⟨hyx.mono (fun b _ hb => ⟨by (try simp at hb); omega, fun e => by have := (hBl b e).1; (try simp at hb); omega⟩), hkx.rd.mono (fun b _ hb => by have h1 := (hkl_ b hb).1; exact ⟨by omega, fun e => by have := (hBl b e).2; omega⟩), hrow_.rd.mono (fun b _ hb => by have h1 := (hrl b hb).1; exact ⟨by omega, fun e => by have := (hBl b e).2; omega⟩), hfit.out.1⟩ hrow4 hg4 hat4
                      have hE4 := (hE.trans htx).row hp.2 (fun k e => by have := (hBl k e).1; omega) (by omega) (fun b hb => by (try simp at hb); omega)
                      have hLn : Hid (∀ t L' g', RdN (nn - (i + 1)) L10 f10 t L' g' → RdN nn LL ff ((s ++ [({ a := { k := (n0 : Int), s := (n1 : Int), n := (n2 : Int) - 1, b := (n3 : Int) - 1, m := (n4 : Int), ek := (n5 : Int), p := ⟨t6.toArray⟩, t := ⟨t7.toArray⟩, x := t8, kl := kl, cl := cl }, xA := A8, xc := c8, kA := Bk, kc := dk, cA := Bc, cc := dc } : AV)]).map AV.a ++ t) L' g') := fun t L' g' h => by
                        rw [List.map_append, List.append_assoc]
                        refine hL.out _ _ _ ?_
                        rw [show nn - i = (nn - (i + 1)) + 1 by omega]
                        exact .step HR.out h
                      have hfl := hfit.out.2
                      have hjj := hj.out
                      go_roundw
                      case rel => exact ⟨s ++ [{ a := { k := (n0 : Int), s := (n1 : Int), n := (n2 : Int) - 1, b := (n3 : Int) - 1, m := (n4 : Int), ek := (n5 : Int), p := ⟨t6.toArray⟩, t := ⟨t7.toArray⟩, x := t8, kl := kl, cl := cl }, xA := A8, xc := c8, kA := Bk, kc := dk, cA := Bc, cc := dc }], B4, d4, i + 1, L10, f10, by simp, by go_num, by omega, hp.1, hE4, hLn, by show _ = _; rw [List.length_append, hjj]; rfl, by omega⟩
                      case measure => simp [intOf]; omega
                  · obtain rfl : k = nc := by omega
                    have hl_ : listN choS k Lc gc = (sc, Lx, gx) := by rw [hLx.out, Nat.sub_self]; simp [listN]
                    rw [HCH.out] at hl_
                    injection hl_ with hl1 hl2
                    injection hl2 with hl2 hl3
                    subst hl1 hl2 hl3
                    clear hLx
                    have rowA := hrow.fr htx.fr (fun g hg e => by have := (hBl g hg).1; omega) (fun b _ hz _ e => hz e)
                    have r0 : wx.cell? ⟨wq.heap.size, 0, none⟩ = some (.int .i64 (n0 : Int)) := bxx.cell 0
                    have r1 : wx.cell? ⟨wq.heap.size, 1, none⟩ = some (.int .i64 (n1 : Int)) := bxx.cell 1
                    have r2 : wx.cell? ⟨wq.heap.size, 2, none⟩ = some (.int .i64 ((n2 : Int) - 1)) := bxx.cell 2
                    have r3 : wx.cell? ⟨wq.heap.size, 3, none⟩ = some (.int .i64 ((n3 : Int) - 1)) := bxx.cell 3
                    have r4 : wx.cell? ⟨wq.heap.size, 4, none⟩ = some (.int .u32 (n4 : Int)) := bxx.cell 4
                    have r5 : wx.cell? ⟨wq.heap.size, 5, none⟩ = some (.int .i64 (n5 : Int)) := bxx.cell 5
                    have r6 : wx.cell? ⟨wq.heap.size, 6, none⟩ = some (.string ⟨t6.toArray⟩) := bxx.cell 6
                    have r7 : wx.cell? ⟨wq.heap.size, 7, none⟩ = some (.string ⟨t7.toArray⟩) := bxx.cell 7
                    have r8 : wx.cell? ⟨wq.heap.size, 8, none⟩ = some (.slice A8 t8.length c8) := bxx.cell 8
                    have r9 : wx.cell? ⟨wq.heap.size, 9, none⟩ = some (.slice Bk kl.length dk) := bxx.cell 9
                    have r10 : wx.cell? ⟨wq.heap.size, 10, none⟩ = some (.slice Bc cl.length dc) := bxx.cell 10
                    have hkl_ := hkx.lt
                    have hqx := htx.fr.size
                    clear hax
                    go_wp2_with (at_builtin; refine wpList_append_row _ rfl (.tmp 133) (.tmp 135) 50 rfl (w.heap.size + 1) 57 i0 _ 11 152 Try.underlying50 hi0 hz0 hz1 hz2 rfl (by omega) rfl (rowA.row.alloc _) rfl (Rd.lit (xs := [.int .i64 (n0 : Int), .int .i64 (n1 : Int), .int .i64 ((n2 : Int) - 1), .int .i64 ((n3 : Int) - 1), .int .u32 (n4 : Int), .int .i64 (n5 : Int), .string ⟨t6.toArray⟩, .string ⟨t7.toArray⟩, .slice A8 t8.length c8, .slice Bk kl.length dk, .slice Bc cl.length dc]) (n := 1) rfl rfl rfl) (by simp [Value.oneCell']) (by simp only [maxLen]; omega) (by omega) (by rw [World.size_alloc]; omega) ?_; intro B4 d4 w4 hrow4 hg4 hat4)
                    have hp := rowA.push (v := { a := { k := (n0 : Int), s := (n1 : Int), n := (n2 : Int) - 1, b := (n3 : Int) - 1, m := (n4 : Int), ek := (n5 : Int), p := ⟨t6.toArray⟩, t := ⟨t7.toArray⟩, x := t8, kl := kl, cl := cl }, xA := A8, xc := c8, kA := Bk, kc := dk, cA := Bc, cc := dc }) ⟨hyx.mono (fun b _ hb => ⟨by (try simp at hb); omega, fun e => by have := (hBl b e).1; (try simp at hb); omega⟩), hkx.rd.mono (fun b _ hb => by have h1 := (hkl_ b hb).1; exact ⟨by omega, fun e => by have := (hBl b e).2; omega⟩), hrow_.rd.mono (fun b _ hb => by have h1 := (hrl b hb).1; exact ⟨by omega, fun e => by have := (hBl b e).2; omega⟩), hfit.out.1⟩ hrow4 hg4 hat4
                    have hE4 := (hE.trans htx).row hp.2 (fun k e => by have := (hBl k e).1; omega) (by omega) (fun b hb => by (try simp at hb); omega)
                    have hLn : Hid (∀ t L' g', RdN (nn - (i + 1)) L10 f10 t L' g' → RdN nn LL ff ((s ++ [({ a := { k := (n0 : Int), s := (n1 : Int), n := (n2 : Int) - 1, b := (n3 : Int) - 1, m := (n4 : Int), ek := (n5 : Int), p := ⟨t6.toArray⟩, t := ⟨t7.toArray⟩, x := t8, kl := kl, cl := cl }, xA := A8, xc := c8, kA := Bk, kc := dk, cA := Bc, cc := dc } : AV)]).map AV.a ++ t) L' g') := fun t L' g' h => by
                      rw [List.map_append, List.append_assoc]
                      refine hL.out _ _ _ ?_
                      rw [show nn - i = (nn - (i + 1)) + 1 by omega]
                      exact .step HR.out h
                    have hfl := hfit.out.2
                    have hjj := hj.out
                    go_roundw
                    case rel => exact ⟨s ++ [{ a := { k := (n0 : Int), s := (n1 : Int), n := (n2 : Int) - 1, b := (n3 : Int) - 1, m := (n4 : Int), ek := (n5 : Int), p := ⟨t6.toArray⟩, t := ⟨t7.toArray⟩, x := t8, kl := kl, cl := cl }, xA := A8, xc := c8, kA := Bk, kc := dk, cA := Bc, cc := dc }], B4, d4, i + 1, L10, f10, by simp, by go_num, by omega, hp.1, hE4, hLn, by show _ = _; rw [List.length_append, hjj]; rfl, by omega⟩
                    case measure => simp [intOf]; omega
        · have hfb : (f0 == 0) = false := by simpa using hf0
          have eg' : (L0, f0) = (M0, g0) := by
            rw [← eg]
            split
            · unfold failS; rw [if_neg (by omega)]
            · rfl
          clear eg
          injection eg' with eg1 eg2
          subst eg1 eg2
          obtain ⟨A0_, c0_, ha0⟩ := ht0.at_
          refine (H0.out _ A0_ c0_ ha0).mono ?_
          rintro e w1 ⟨rfl, h1⟩
          (try dsimp only at h1)
          have bx1' := bx0.fr h1.fr (by omega)
          have qq : w1.cell? ⟨wq.heap.size, 0, none⟩ = some (.int .i64 0) := bx1'.cell 0
          have zz := bx1'.frozen 0
          obtain ⟨hA1, cA1, haa⟩ := h1.at_
          have e_ := haa.c1
          go_wp2_with fail
          obtain ⟨ht1, bx1, hf_⟩ := box_set (o := 0) (ht0.trans h1) bx1' (Nat.le_refl _) (by omega) hzw (.int .i64 (n0 : Int))
          simp only [List.setIfInBounds_toArray, List.set_cons_zero] at bx1
          clear qq zz hf_ bx0 bx1' h1 ht0 H0 ha0 haa e_
          generalize w1.setCell ⟨wq.heap.size, 0, none⟩ (.int .i64 (n0 : Int)) = V1 at *
          obtain ⟨A1_, c1_, ha1⟩ := ht1.at_
          refine (H1.out _ A1_ c1_ ha1).mono ?_
          rintro e w2 ⟨rfl, h2⟩
          (try dsimp only at h2)
          have bx2' := bx1.fr h2.fr (by omega)
          have qq : w2.cell? ⟨wq.heap.size, 1, none⟩ = some (.int .i64 0) := bx2'.cell 1
          have zz := bx2'.frozen 1
          go_wp2_with fail
          obtain ⟨ht2, bx2, hf_⟩ := box_set (o := 1) (ht1.trans h2) bx2' (Nat.le_refl _) (by omega) hzw (.int .i64 (n1 : Int))
          simp only [List.setIfInBounds_toArray, List.set_cons_zero, List.set_cons_succ] at bx2
          clear qq zz hf_ bx1 bx2' h2 ht1 H1 ha1
          generalize w2.setCell ⟨wq.heap.size, 1, none⟩ (.int .i64 (n1 : Int)) = V2 at *
          obtain ⟨A2_, c2_, ha2⟩ := ht2.at_
          refine (H2.out _ A2_ c2_ ha2).mono ?_
          rintro e w3 ⟨rfl, h3⟩
          (try dsimp only at h3)
          have bx3' := bx2.fr h3.fr (by omega)
          have qq : w3.cell? ⟨wq.heap.size, 2, none⟩ = some (.int .i64 0) := bx3'.cell 2
          have zz := bx3'.frozen 2
          go_wp2_with fail
          obtain ⟨ht3, bx3, hf_⟩ := box_set (o := 2) (ht2.trans h3) bx3' (Nat.le_refl _) (by omega) hzw (.int .i64 ((n2 : Int) - 1))
          simp only [List.setIfInBounds_toArray, List.set_cons_zero, List.set_cons_succ] at bx3
          clear qq zz hf_ bx2 bx3' h3 ht2 H2 ha2
          generalize w3.setCell ⟨wq.heap.size, 2, none⟩ (.int .i64 ((n2 : Int) - 1)) = V3 at *
          obtain ⟨A3_, c3_, ha3⟩ := ht3.at_
          refine (H3.out _ A3_ c3_ ha3).mono ?_
          rintro e w4 ⟨rfl, h4⟩
          (try dsimp only at h4)
          have bx4' := bx3.fr h4.fr (by omega)
          have qq : w4.cell? ⟨wq.heap.size, 3, none⟩ = some (.int .i64 0) := bx4'.cell 3
          have zz := bx4'.frozen 3
          go_wp2_with fail
          obtain ⟨ht4, bx4, hf_⟩ := box_set (o := 3) (ht3.trans h4) bx4' (Nat.le_refl _) (by omega) hzw (.int .i64 ((n3 : Int) - 1))
          simp only [List.setIfInBounds_toArray, List.set_cons_zero, List.set_cons_succ] at bx4
          clear qq zz hf_ bx3 bx4' h4 ht3 H3 ha3
          generalize w4.setCell ⟨wq.heap.size, 3, none⟩ (.int .i64 ((n3 : Int) - 1)) = V4 at *
          obtain ⟨A4_, c4_, ha4⟩ := ht4.at_
          refine (H4.out _ A4_ c4_ ha4).mono ?_
          rintro e w5 ⟨rfl, h5⟩
          (try dsimp only at h5)
          have bx5' := bx4.fr h5.fr (by omega)
          have qq : w5.cell? ⟨wq.heap.size, 4, none⟩ = some (.int .u32 0) := bx5'.cell 4
          have zz := bx5'.frozen 4
          go_wp2_with fail
          obtain ⟨ht5, bx5, hf_⟩ := box_set (o := 4) (ht4.trans h5) bx5' (Nat.le_refl _) (by omega) hzw (.int .u32 (n4 : Int))
          simp only [List.setIfInBounds_toArray, List.set_cons_zero, List.set_cons_succ] at bx5
          clear qq zz hf_ bx4 bx5' h5 ht4 H4 ha4
          generalize w5.setCell ⟨wq.heap.size, 4, none⟩ (.int .u32 (n4 : Int)) = V5 at *
          obtain ⟨A5_, c5_, ha5⟩ := ht5.at_
          refine (H5.out _ A5_ c5_ ha5).mono ?_
          rintro e w6 ⟨rfl, h6⟩
          (try dsimp only at h6)
          have bx6' := bx5.fr h6.fr (by omega)
          have qq : w6.cell? ⟨wq.heap.size, 5, none⟩ = some (.int .i64 0) := bx6'.cell 5
          have zz := bx6'.frozen 5
          go_wp2_with fail
          obtain ⟨ht6, bx6, hf_⟩ := box_set (o := 5) (ht5.trans h6) bx6' (Nat.le_refl _) (by omega) hzw (.int .i64 (n5 : Int))
          simp only [List.setIfInBounds_toArray, List.set_cons_zero, List.set_cons_succ] at bx6
          clear qq zz hf_ bx5 bx6' h6 ht5 H5 ha5
          generalize w6.setCell ⟨wq.heap.size, 5, none⟩ (.int .i64 (n5 : Int)) = V6 at *
          obtain ⟨A6_, c6_, ha6⟩ := ht6.at_
          refine (H6.out _ A6_ c6_ ha6).mono ?_
          rintro e w7 ⟨A_, n_, c_, rfl, hn_, hr_, _, _, h7⟩
          (try dsimp only at h7 hr_)
          obtain rfl : n_ = t6.length := hn_.out
          have k_ := conv_by hr_ c_
          have bx7' := bx6.fr h7.fr (by omega)
          have qq : w7.cell? ⟨wq.heap.size, 6, none⟩ = some (.string ⟨#[]⟩) := bx7'.cell 6
          have zz := bx7'.frozen 6
          go_wp2_with fail
          obtain ⟨ht7, bx7, hf_⟩ := box_set (o := 6) (ht6.trans h7) bx7' (Nat.le_refl _) (by omega) hzw (.string ⟨t6.toArray⟩)
          simp only [List.setIfInBounds_toArray, List.set_cons_zero, List.set_cons_succ] at bx7
          clear qq zz hf_ bx6 bx7' h7 ht6 H6 ha6 hr_ k_ hn_
          generalize w7.setCell ⟨wq.heap.size, 6, none⟩ (.string ⟨t6.toArray⟩) = V7 at *
          obtain ⟨A7_, c7_, ha7⟩ := ht7.at_
          refine (H7.out _ A7_ c7_ ha7).mono ?_
          rintro e w8 ⟨A_, n_, c_, rfl, hn_, hr_, _, _, h8⟩
          (try dsimp only at h8 hr_)
          obtain rfl : n_ = t7.length := hn_.out
          have k_ := conv_by hr_ c_
          have bx8' := bx7.fr h8.fr (by omega)
          have qq : w8.cell? ⟨wq.heap.size, 7, none⟩ = some (.string ⟨#[]⟩) := bx8'.cell 7
          have zz := bx8'.frozen 7
          go_wp2_with fail
          obtain ⟨ht8, bx8, hf_⟩ := box_set (o := 7) (ht7.trans h8) bx8' (Nat.le_refl _) (by omega) hzw (.string ⟨t7.toArray⟩)
          simp only [List.setIfInBounds_toArray, List.set_cons_zero, List.set_cons_succ] at bx8
          clear qq zz hf_ bx7 bx8' h8 ht7 H7 ha7 hr_ k_ hn_
          generalize w8.setCell ⟨wq.heap.size, 7, none⟩ (.string ⟨t7.toArray⟩) = V8 at *
          obtain ⟨A8_, c8_, ha8⟩ := ht8.at_
          refine (H8.out _ A8_ c8_ ha8).mono ?_
          rintro e w9 ⟨A8, n_, c8, rfl, hn_, hr_, _, _, h9⟩
          (try dsimp only at h9 hr_)
          obtain rfl : n_ = t8.length := hn_.out
          have hy9 : By w9 (fun b => b < w.heap.size) A8 t8 := hr_
          have bx9' := bx8.fr h9.fr (by omega)
          have qq : w9.cell? ⟨wq.heap.size, 8, none⟩ = some (.slice none 0 0) := bx9'.cell 8
          have zz := bx9'.frozen 8
          go_wp2_with fail
          obtain ⟨ht9, bx9, hf_⟩ := box_set (o := 8) (ht8.trans h9) bx9' (Nat.le_refl _) (by omega) hzw (.slice A8 t8.length c8)
          simp only [List.setIfInBounds_toArray, List.set_cons_zero, List.set_cons_succ] at bx9
          replace hy9 := hy9.fr hf_ (fun b _ hb e => by (try simp at hb); omega)
          clear qq zz hf_ bx8 bx9' h9 ht8 H8 ha8 hr_ hn_
          generalize w9.setCell ⟨wq.heap.size, 8, none⟩ (.slice A8 t8.length c8) = V9 at *
          obtain ⟨A_, c_, ha_⟩ := ht9.at_
          refine (H9.out _ A_ c_ ha_).mono ?_
          rintro e w9 ⟨rfl, h9⟩
          (try dsimp only at h9)
          have bxK := bx9.fr h9.fr (by omega)
          have htK := ht9.trans h9
          have hyK := hy9.fr h9.fr (fun b _ hb e => by (try simp at hb); omega)
          clear bx9 ht9 hy9 h9 H9 ha_
          go_wp2_with fail
          go_loopw [10] (fun kv wx => ∃ (sk : List KV) (Bk : Option Addr) (dk k : Nat) (Lx : List UInt8) (gx : Int), kv = .int .i64 (k : Int) ∧ k ≤ nk ∧ Hid (sk.length = k) ∧ Hid (listN keepS nk Lk gk = (sk ++ (listN keepS (nk - k) Lx gx).1, (listN keepS (nk - k) Lx gx).2)) ∧ EyeTo wq 109 w.heap.size (fun b => b < w.heap.size) Lx gx wx ∧ Blk wx wq.heap.size 57 #[.int .i64 (n0 : Int), .int .i64 (n1 : Int), .int .i64 ((n2 : Int) - 1), .int .i64 ((n3 : Int) - 1), .int .u32 (n4 : Int), .int .i64 (n5 : Int), .string ⟨t6.toArray⟩, .string ⟨t7.toArray⟩, .slice A8 t8.length c8, .slice Bk sk.length dk, .slice none 0 0] ∧ Row wx (wq.heap.size + 1) 91 2 Bk sk.length dk (sk.flatMap KV.cells) ∧ By wx (fun b => b < w.heap.size) A8 t8) (fun kv _ => nk - (intOf kv).toNat)
          case atStart => exact ⟨[], none, 0, 0, Lk, gk, rfl, Nat.zero_le _, rfl, by show _ = _; simp, htK, bxK, Row.none_ _ _ _ _, hyK⟩
          case round =>
            obtain ⟨sk, Bk, dk, k, Lx, gx, rfl, hk, hsl, hLx, htx, bxx, hrow_, hyx⟩ := hrel
            obtain ⟨wx, rfl⟩ : ∃ wx : World, wx = wr := ⟨_, rfl⟩
            obtain ⟨Ax, cx, hax⟩ := htx.at_
            have cc := hax.c1
            have sx := bxx.lt
            have hrl := hrow_.lt
            have hsb_ : sk.length ≤ 8 := by have := hsl.out; omega
            by_cases hkn : k < nk
            · by_cases hgx : gx = 0
              · subst hgx
                obtain ⟨m1, K1, g1_, ek1⟩ : ∃ n L g, intS Lx 0 1048576 = (n, L, g) := ⟨_, _, _, rfl⟩
                obtain ⟨m2, K2, g2_, ek2⟩ : ∃ n L g, intS K1 g1_ 1048576 = (n, L, g) := ⟨_, _, _, rfl⟩
                have hsp : keepS Lx 0 = (⟨(m1 : Int), (m2 : Int)⟩, K2, g2_) := by unfold keepS; rw [ek1]; dsimp only; rw [ek2]
                have J1 := Lib.hid (fun W A c h => intR_any w.heap.size (fun b => b < w.heap.size) A c Lx 0 1048576 W h hzz (by omega))
                have J2 := Lib.hid (fun W A c h => intR_any w.heap.size (fun b => b < w.heap.size) A c K1 g1_ 1048576 W h hzz (by omega))
                rw [ek1] at J1
                rw [ek2] at J2
                have hL2 : Hid (listN keepS nk Lk gk = ((sk ++ [⟨(m1 : Int), (m2 : Int)⟩]) ++ (listN keepS (nk - (k + 1)) K2 g2_).1, (listN keepS (nk - (k + 1)) K2 g2_).2)) := by
                  show _ = _
                  rw [hLx.out, show nk - k = (nk - (k + 1)) + 1 by omega, listN_ok, hsp]
                  simp
                clear ek1 ek2 hsp hLx
                have bX := Blk.new wx 91 #[.int .i64 0, .int .i64 0]
                have hbX : Below wx.heap.size wx (wx.alloc (.cells #[.int .i64 0, .int .i64 0] 91)) := (by repeat (first | exact Below.refl _ _ | refine Below.alloc ?_ (by simp) _ | refine Below.setCell ?_ (by simp) _ | refine Below.drew ?_))
                have hzX : ∀ x, (fun b => b < w.heap.size) x → x ≠ wx.heap.size := fun x hx e => by (try simp at hx); omega
                have hqx := htx.fr.size
                go_wp2_with fail
                refine (J1.out _ Ax cx (hax.below hbX)).mono ?_
                rintro e y1 ⟨rfl, i1⟩
                (try dsimp only at i1)
                have bX1 := bX.fr i1.fr (by omega)
                have qq : y1.cell? ⟨wx.heap.size, 0, none⟩ = some (.int .i64 0) := bX1.cell 0
                have zz := bX1.frozen 0
                have tx1 := (htx.then_ hbX).trans i1
                have F1 := (Fr.of_below hbX (fun b => b = w.heap.size)).trans i1.fr (fun _ _ h => h)
                clear cc bX hax i1 
                go_wp2_with fail
                obtain ⟨tx2, bX2, hf_⟩ := box_set (o := 0) tx1 bX1 (by omega) (by omega) hzX (.int .i64 (m1 : Int))
                simp only [List.setIfInBounds_toArray, List.set_cons_zero] at bX2
                have F2 := F1.trans hf_ (fun x hx e => absurd e (by omega))
                clear qq zz tx1 bX1 hf_ F1 J1 
                generalize y1.setCell ⟨wx.heap.size, 0, none⟩ (.int .i64 (m1 : Int)) = Y1 at *
                obtain ⟨A_, c_, ha_⟩ := tx2.at_
                refine (J2.out _ A_ c_ ha_).mono ?_
                rintro e y2 ⟨rfl, i2⟩
                (try dsimp only at i2)
                have bX3 := bX2.fr i2.fr (by omega)
                have qq : y2.cell? ⟨wx.heap.size, 1, none⟩ = some (.int .i64 0) := bX3.cell 1
                have zz := bX3.frozen 1
                have q0 : y2.cell? ⟨wx.heap.size, 0, none⟩ = some (.int .i64 (m1 : Int)) := bX3.cell 0
                obtain ⟨tx4, bX4, hf_⟩ := box_set (o := 1) (tx2.trans i2) bX3 (by omega) (by omega) hzX (.int .i64 (m2 : Int))
                have F3 := (F2.trans i2.fr (fun _ _ h => h)).trans hf_ (fun x hx e => absurd e (by omega))
                have b2 := bxx.fr (F2.trans i2.fr (fun _ _ h => h)) (by omega)
                have b3 := bxx.fr F3 (by omega)
                have row3 := hrow_.fr F3 (fun g hg e => by have := (hrl g hg).1; omega)
                have y3 := hyx.fr F3 (fun b _ hb e => by (try simp at hb); omega)
                have s3 := F3.size
                have p9 : y2.cell? ⟨wq.heap.size, 9, none⟩ = some (.slice Bk sk.length dk) := b2.cell 9
                have hneX : ¬ wq.heap.size = wx.heap.size := by omega
                have hneX2 : ¬ wx.heap.size = wq.heap.size := by omega
                have hBne := hrow_.ne_blk bxx (by decide)
                obtain ⟨i1_, hi1_, hw0_, hw1_, hw2_⟩ := info_parts kv_info
                clear tx2 bX2 bX3 i2 ha_ F2 b2 J2 hf_
                go_wp2_with (at_builtin; (refine wpList_append_row _ rfl (.tmp 101) (.tmp 103) 54 rfl (wq.heap.size + 1) 91 i1_ _ 2 16 Try.underlying54 hi1_ hw0_ hw1_ hw2_ rfl (by omega) rfl (row3.alloc _) rfl (Rd.lit (xs := [.int .i64 (m1 : Int), .int .i64 (m2 : Int)]) (n := 1) rfl rfl (by first | rfl | simp [World.setCell])) (by simp [Value.oneCell']) (by simp only [maxLen]; omega) (by omega) (by rw [World.size_alloc]; omega) ?_; intro B4 d4 w5 hrow4 hg4 hat4; have b5 := (b3.alloc (.cells #[.int .i64 (m1 : Int), .int .i64 (m2 : Int)] 91)).grown hg4 hBne; have p5 : w5.cell? ⟨wq.heap.size, 9, none⟩ = some (.slice Bk sk.length dk) := b5.cell 9; have z5 := b5.frozen 9))
                skip
                have fr4 := Fr.of_grown hg4 (S := fun x => ablk Bk = some x) (fun _ _ e => e)
                have t5 := (tx4.then_ (c := (y2.setCell ⟨wx.heap.size, 1, none⟩ (.int .i64 (m2 : Int))).alloc (.cells #[.int .i64 (m1 : Int), .int .i64 (m2 : Int)] 91)) (by repeat (first | exact Below.refl _ _ | refine Below.alloc ?_ (by simp) _ | refine Below.setCell ?_ (by simp) _ | refine Below.drew ?_))).row (B := ablk Bk) fr4 (fun x e => by have := (hrl x e).1; omega) (by omega) (fun x hx => by (try simp at hx); omega)
                have f6 : Fr (fun x => x = wq.heap.size) w5 (w5.setCell ⟨wq.heap.size, 9, none⟩ (.slice B4 (sk.length + 1) d4)) := (Fr.refl (fun x => x = wq.heap.size) w5).setAt _ 9 rfl _
                have b6 := b5.set_ 9 (.slice B4 (sk.length + 1) d4)
                simp only [List.setIfInBounds_toArray, List.set_cons_zero, List.set_cons_succ] at b6
                have r4 : Row w5 (wq.heap.size + 1) 91 2 B4 (sk ++ [(⟨(m1 : Int), (m2 : Int)⟩ : KV)]).length d4 ((sk ++ [(⟨(m1 : Int), (m2 : Int)⟩ : KV)]).flatMap KV.cells) := by
                  rw [List.length_append, List.flatMap_append, List.flatMap_cons, List.flatMap_nil, List.append_nil]
                  exact hrow4
                have y5 := (y3.alloc (.cells #[.int .i64 (m1 : Int), .int .i64 (m2 : Int)] 91)).fr fr4 (fun b _ hb e => by have := (hrl b e).1; (try simp at hb); omega)
                go_roundw
                case rel => exact ⟨sk ++ [⟨(m1 : Int), (m2 : Int)⟩], B4, d4, k + 1, K2, g2_, by go_num, by omega, by show _ = _; rw [List.length_append, hsl.out]; rfl, hL2, t5.side f6 (Nat.le_refl _) (by omega) hzw, by simpa using b6, r4.fr f6 (fun g hg e => (r4.ne_blk b5 (by decide)) (by rw [hg, e])), y5.fr f6 (fun b _ hb e => by (try simp at hb); omega)⟩
                case measure => simp [intOf]; omega
              · have hgb : (gx == 0) = false := by simpa using hgx
                have hl_ : listN keepS nk Lk gk = (sk, Lx, gx) := by rw [hLx.out, listN_bad hgx]; simp
                rw [HK.out] at hl_
                injection hl_ with hl1 hl2
                injection hl2 with hl2 hl3
                subst hl1 hl2 hl3
                clear hLx
                go_wp2_with fail
                refine (H10.out _ Ax cx hax).mono ?_
                rintro e w10 ⟨rfl, h10⟩
                (try dsimp only at h10)
                have bxC := bxx.fr h10.fr (by omega)
                have htC := htx.trans h10
                have hyC := hyx.fr h10.fr (fun b _ hb e => by (try simp at hb); omega)
                have hkC := hrow_.fr h10.fr (fun g hg e => by have := (hrl g hg).1; omega)
                clear bxx htx hyx h10 hax cc sx hrl hrow_
                obtain ⟨wk, rfl⟩ : ∃ wk : World, wk = wx := ⟨_, rfl⟩
                go_wp2_with fail
                go_loopw [12] (fun kv wx => ∃ (sc : List HW) (Bc : Option Addr) (dc k : Nat) (Lx : List UInt8) (gx : Int), kv = .int .i64 (k : Int) ∧ k ≤ nc ∧ Hid (sc.length = k) ∧ Hid (listN choS nc Lc gc = (sc ++ (listN choS (nc - k) Lx gx).1, (listN choS (nc - k) Lx gx).2)) ∧ EyeTo wq 109 w.heap.size (fun b => b < w.heap.size) Lx gx wx ∧ Blk wx wq.heap.size 57 #[.int .i64 (n0 : Int), .int .i64 (n1 : Int), .int .i64 ((n2 : Int) - 1), .int .i64 ((n3 : Int) - 1), .int .u32 (n4 : Int), .int .i64 (n5 : Int), .string ⟨t6.toArray⟩, .string ⟨t7.toArray⟩, .slice A8 t8.length c8, .slice Bk kl.length dk, .slice Bc sc.length dc] ∧ Row wx (wq.heap.size + 1) 95 2 Bc sc.length dc (sc.flatMap HW.cells) ∧ By wx (fun b => b < w.heap.size) A8 t8 ∧ Row wx (wq.heap.size + 1) 91 2 Bk kl.length dk (kl.flatMap KV.cells)) (fun kv _ => nc - (intOf kv).toNat)
                case atStart => exact ⟨[], none, 0, 0, Lc, gc, rfl, Nat.zero_le _, rfl, by show _ = _; simp, htC, bxC, Row.none_ _ _ _ _, hyC, hkC⟩
                case round =>
                  obtain ⟨sc, Bc, dc, k, Lx, gx, rfl, hk, hsl, hLx, htx, bxx, hrow_, hyx, hkx⟩ := hrel
                  obtain ⟨wx, rfl⟩ : ∃ wx : World, wx = wr := ⟨_, rfl⟩
                  obtain ⟨Ax, cx, hax⟩ := htx.at_
                  have cc := hax.c1
                  have sx := bxx.lt
                  have hrl := hrow_.lt
                  have hsb_ : sc.length ≤ 8 := by have := hsl.out; omega
                  by_cases hkn : k < nc
                  · by_cases hgx : gx = 0
                    · subst hgx
                      obtain ⟨m1, K1, g1_, ek1⟩ : ∃ n L g, textS Lx 0 96 = (n, L, g) := ⟨_, _, _, rfl⟩
                      obtain ⟨m2, K2, g2_, ek2⟩ : ∃ n L g, intS K1 g1_ 2 = (n, L, g) := ⟨_, _, _, rfl⟩
                      have hsp : choS Lx 0 = (⟨⟨m1.toArray⟩, (m2 : Int)⟩, K2, g2_) := by unfold choS; rw [ek1]; dsimp only; rw [ek2]
                      have J1 := Lib.hid (fun W A c h => textR_any w.heap.size (fun b => b < w.heap.size) A c Lx 0 96 W h hzz (by omega))
                      have J2 := Lib.hid (fun W A c h => intR_any w.heap.size (fun b => b < w.heap.size) A c K1 g1_ 2 W h hzz (by omega))
                      rw [ek1] at J1
                      rw [ek2] at J2
                      have hL2 : Hid (listN choS nc Lc gc = ((sc ++ [⟨⟨m1.toArray⟩, (m2 : Int)⟩]) ++ (listN choS (nc - (k + 1)) K2 g2_).1, (listN choS (nc - (k + 1)) K2 g2_).2)) := by
                        show _ = _
                        rw [hLx.out, show nc - k = (nc - (k + 1)) + 1 by omega, listN_ok, hsp]
                        simp
                      clear ek1 ek2 hsp hLx
                      have bX := Blk.new wx 95 #[.string ⟨#[]⟩, .int .i64 0]
                      have hbX : Below wx.heap.size wx (wx.alloc (.cells #[.string ⟨#[]⟩, .int .i64 0] 95)) := (by repeat (first | exact Below.refl _ _ | refine Below.alloc ?_ (by simp) _ | refine Below.setCell ?_ (by simp) _ | refine Below.drew ?_))
                      have hzX : ∀ x, (fun b => b < w.heap.size) x → x ≠ wx.heap.size := fun x hx e => by (try simp at hx); omega
                      have hqx := htx.fr.size
                      go_wp2_with fail
                      refine (J1.out _ Ax cx (hax.below hbX)).mono ?_
                      rintro e y1 ⟨A_, n_, c_, rfl, hn_, hr_, _, _, i1⟩
                      (try dsimp only at i1 hr_)
                      obtain rfl : n_ = m1.length := hn_.out
                      have k_ := conv_by hr_ c_
                      have bX1 := bX.fr i1.fr (by omega)
                      have qq : y1.cell? ⟨wx.heap.size, 0, none⟩ = some (.string ⟨#[]⟩) := bX1.cell 0
                      have zz := bX1.frozen 0
                      have tx1 := (htx.then_ hbX).trans i1
                      have F1 := (Fr.of_below hbX (fun b => b = w.heap.size)).trans i1.fr (fun _ _ h => h)
                      clear cc bX hax i1 hr_ hn_
                      go_wp2_with fail
                      obtain ⟨tx2, bX2, hf_⟩ := box_set (o := 0) tx1 bX1 (by omega) (by omega) hzX (.string ⟨m1.toArray⟩)
                      simp only [List.setIfInBounds_toArray, List.set_cons_zero] at bX2
                      have F2 := F1.trans hf_ (fun x hx e => absurd e (by omega))
                      clear qq zz tx1 bX1 hf_ F1 J1 k_
                      generalize y1.setCell ⟨wx.heap.size, 0, none⟩ (.string ⟨m1.toArray⟩) = Y1 at *
                      obtain ⟨A_, c_, ha_⟩ := tx2.at_
                      refine (J2.out _ A_ c_ ha_).mono ?_
                      rintro e y2 ⟨rfl, i2⟩
                      (try dsimp only at i2)
                      have bX3 := bX2.fr i2.fr (by omega)
                      have qq : y2.cell? ⟨wx.heap.size, 1, none⟩ = some (.int .i64 0) := bX3.cell 1
                      have zz := bX3.frozen 1
                      have q0 : y2.cell? ⟨wx.heap.size, 0, none⟩ = some (.string ⟨m1.toArray⟩) := bX3.cell 0
                      obtain ⟨tx4, bX4, hf_⟩ := box_set (o := 1) (tx2.trans i2) bX3 (by omega) (by omega) hzX (.int .i64 (m2 : Int))
                      have F3 := (F2.trans i2.fr (fun _ _ h => h)).trans hf_ (fun x hx e => absurd e (by omega))
                      have b2 := bxx.fr (F2.trans i2.fr (fun _ _ h => h)) (by omega)
                      have b3 := bxx.fr F3 (by omega)
                      have row3 := hrow_.fr F3 (fun g hg e => by have := (hrl g hg).1; omega)
                      have y3 := hyx.fr F3 (fun b _ hb e => by (try simp at hb); omega)
                      have k3 := hkx.fr F3 (fun g hg e => by have := (hkx.lt g hg).1; omega)
                      have s3 := F3.size
                      have p9 : y2.cell? ⟨wq.heap.size, 10, none⟩ = some (.slice Bc sc.length dc) := b2.cell 10
                      have hneX : ¬ wq.heap.size = wx.heap.size := by omega
                      have hneX2 : ¬ wx.heap.size = wq.heap.size := by omega
                      have hBne := hrow_.ne_blk bxx (by decide)
                      obtain ⟨i1_, hi1_, hw0_, hw1_, hw2_⟩ := info_parts hw_info
                      clear tx2 bX2 bX3 i2 ha_ F2 b2 J2 hf_
                      go_wp2_with (at_builtin; (refine wpList_append_row _ rfl (.tmp 128) (.tmp 130) 55 rfl (wq.heap.size + 1) 95 i1_ _ 2 24 Try.underlying55 hi1_ hw0_ hw1_ hw2_ rfl (by omega) rfl (row3.alloc _) rfl (Rd.lit (xs := [.string ⟨m1.toArray⟩, .int .i64 (m2 : Int)]) (n := 1) rfl rfl (by first | rfl | simp [World.setCell])) (by simp [Value.oneCell']) (by simp only [maxLen]; omega) (by omega) (by rw [World.size_alloc]; omega) ?_; intro B4 d4 w5 hrow4 hg4 hat4; have b5 := (b3.alloc (.cells #[.string ⟨m1.toArray⟩, .int .i64 (m2 : Int)] 95)).grown hg4 hBne; have p5 : w5.cell? ⟨wq.heap.size, 10, none⟩ = some (.slice Bc sc.length dc) := b5.cell 10; have z5 := b5.frozen 10; have k5 := (k3.alloc (.cells #[.string ⟨m1.toArray⟩, .int .i64 (m2 : Int)] 95)).fr (Fr.of_grown hg4 (S := fun x => ablk Bc = some x) (fun _ _ e => e)) (fun g hg e => Row.ne_row k3 row3 (by decide) g hg e)))
                      skip
                      have fr4 := Fr.of_grown hg4 (S := fun x => ablk Bc = some x) (fun _ _ e => e)
                      have t5 := (tx4.then_ (c := (y2.setCell ⟨wx.heap.size, 1, none⟩ (.int .i64 (m2 : Int))).alloc (.cells #[.string ⟨m1.toArray⟩, .int .i64 (m2 : Int)] 95)) (by repeat (first | exact Below.refl _ _ | refine Below.alloc ?_ (by simp) _ | refine Below.setCell ?_ (by simp) _ | refine Below.drew ?_))).row (B := ablk Bc) fr4 (fun x e => by have := (hrl x e).1; omega) (by omega) (fun x hx => by (try simp at hx); omega)
                      have f6 : Fr (fun x => x = wq.heap.size) w5 (w5.setCell ⟨wq.heap.size, 10, none⟩ (.slice B4 (sc.length + 1) d4)) := (Fr.refl (fun x => x = wq.heap.size) w5).setAt _ 10 rfl _
                      have b6 := b5.set_ 10 (.slice B4 (sc.length + 1) d4)
                      simp only [List.setIfInBounds_toArray, List.set_cons_zero, List.set_cons_succ] at b6
                      have r4 : Row w5 (wq.heap.size + 1) 95 2 B4 (sc ++ [(⟨⟨m1.toArray⟩, (m2 : Int)⟩ : HW)]).length d4 ((sc ++ [(⟨⟨m1.toArray⟩, (m2 : Int)⟩ : HW)]).flatMap HW.cells) := by
                        rw [List.length_append, List.flatMap_append, List.flatMap_cons, List.flatMap_nil, List.append_nil]
                        exact hrow4
                      have y5 := (y3.alloc (.cells #[.string ⟨m1.toArray⟩, .int .i64 (m2 : Int)] 95)).fr fr4 (fun b _ hb e => by have := (hrl b e).1; (try simp at hb); omega)
                      go_roundw
                      case rel => exact ⟨sc ++ [⟨⟨m1.toArray⟩, (m2 : Int)⟩], B4, d4, k + 1, K2, g2_, by go_num, by omega, by show _ = _; rw [List.length_append, hsl.out]; rfl, hL2, t5.side f6 (Nat.le_refl _) (by omega) hzw, by simpa using b6, r4.fr f6 (fun g hg e => (r4.ne_blk b5 (by decide)) (by rw [hg, e])), y5.fr f6 (fun b _ hb e => by (try simp at hb); omega), k5.fr f6 (fun g hg e => (k5.ne_blk b5 (by decide)) (by rw [hg, e]))⟩
                      case measure => simp [intOf]; omega
                    · have hgb : (gx == 0) = false := by simpa using hgx
                      have hl_ : listN choS nc Lc gc = (sc, Lx, gx) := by rw [hLx.out, listN_bad hgx]; simp
                      rw [HCH.out] at hl_
                      injection hl_ with hl1 hl2
                      injection hl2 with hl2 hl3
                      subst hl1 hl2 hl3
                      clear hLx
                      have rowA := hrow.fr htx.fr (fun g hg e => by have := (hBl g hg).1; omega) (fun b _ hz _ e => hz e)
                      have r0 : wx.cell? ⟨wq.heap.size, 0, none⟩ = some (.int .i64 (n0 : Int)) := bxx.cell 0
                      have r1 : wx.cell? ⟨wq.heap.size, 1, none⟩ = some (.int .i64 (n1 : Int)) := bxx.cell 1
                      have r2 : wx.cell? ⟨wq.heap.size, 2, none⟩ = some (.int .i64 ((n2 : Int) - 1)) := bxx.cell 2
                      have r3 : wx.cell? ⟨wq.heap.size, 3, none⟩ = some (.int .i64 ((n3 : Int) - 1)) := bxx.cell 3
                      have r4 : wx.cell? ⟨wq.heap.size, 4, none⟩ = some (.int .u32 (n4 : Int)) := bxx.cell 4
                      have r5 : wx.cell? ⟨wq.heap.size, 5, none⟩ = some (.int .i64 (n5 : Int)) := bxx.cell 5
                      have r6 : wx.cell? ⟨wq.heap.size, 6, none⟩ = some (.string ⟨t6.toArray⟩) := bxx.cell 6
                      have r7 : wx.cell? ⟨wq.heap.size, 7, none⟩ = some (.string ⟨t7.toArray⟩) := bxx.cell 7
                      have r8 : wx.cell? ⟨wq.heap.size, 8, none⟩ = some (.slice A8 t8.length c8) := bxx.cell 8
                      have r9 : wx.cell? ⟨wq.heap.size, 9, none⟩ = some (.slice Bk kl.length dk) := bxx.cell 9
                      have r10 : wx.cell? ⟨wq.heap.size, 10, none⟩ = some (.slice Bc cl.length dc) := bxx.cell 10
                      have hkl_ := hkx.lt
                      have hqx := htx.fr.size
                      clear hax
                      go_wp2_with (at_builtin; refine wpList_append_row _ rfl (.tmp 133) (.tmp 135) 50 rfl (w.heap.size + 1) 57 i0 _ 11 152 Try.underlying50 hi0 hz0 hz1 hz2 rfl (by omega) rfl (rowA.row.alloc _) rfl (Rd.lit (xs := [.int .i64 (n0 : Int), .int .i64 (n1 : Int), .int .i64 ((n2 : Int) - 1), .int .i64 ((n3 : Int) - 1), .int .u32 (n4 : Int), .int .i64 (n5 : Int), .string ⟨t6.toArray⟩, .string ⟨t7.toArray⟩, .slice A8 t8.length c8, .slice Bk kl.length dk, .slice Bc cl.length dc]) (n := 1) rfl rfl rfl) (by simp [Value.oneCell']) (by simp only [maxLen]; omega) (by omega) (by rw [World.size_alloc]; omega) ?_; intro B4 d4 w4 hrow4 hg4 hat4)
                      have hp := rowA.push (v := { a := { k := (n0 : Int), s := (n1 : Int), n := (n2 : Int) - 1, b := (n3 : Int) - 1, m := (n4 : Int), ek := (n5 : Int), p := ⟨t6.toArray⟩, t := ⟨t7.toArray⟩, x := t8, kl := kl, cl := cl }, xA := A8, xc := c8, kA := Bk, kc := dk, cA := Bc, cc := dc }) ⟨hyx.mono (fun b _ hb => ⟨by (try simp at hb); omega, fun e => by have := (hBl b e).1; (try simp at hb); omega⟩), hkx.rd.mono (fun b _ hb => by have h1 := (hkl_ b hb).1; exact ⟨by omega, fun e => by have := (hBl b e).2; omega⟩), hrow_.rd.mono (fun b _ hb => by have h1 := (hrl b hb).1; exact ⟨by omega, fun e => by have := (hBl b e).2; omega⟩), hfit.out.1⟩ hrow4 hg4 hat4
                      have hE4 := (hE.trans htx).row hp.2 (fun k e => by have := (hBl k e).1; omega) (by omega) (fun b hb => by (try simp at hb); omega)
                      have hLn : Hid (∀ t L' g', RdN (nn - (i + 1)) L10 f10 t L' g' → RdN nn LL ff ((s ++ [({ a := { k := (n0 : Int), s := (n1 : Int), n := (n2 : Int) - 1, b := (n3 : Int) - 1, m := (n4 : Int), ek := (n5 : Int), p := ⟨t6.toArray⟩, t := ⟨t7.toArray⟩, x := t8, kl := kl, cl := cl }, xA := A8, xc := c8, kA := Bk, kc := dk, cA := Bc, cc := dc } : AV)]).map AV.a ++ t) L' g') := fun t L' g' h => by
                        rw [List.map_append, List.append_assoc]
                        refine hL.out _ _ _ ?_
                        rw [show nn - i = (nn - (i + 1)) + 1 by omega]
                        exact .step HR.out h
                      have hfl := hfit.out.2
                      have hjj := hj.out
                      go_roundw
                      case rel => exact ⟨s ++ [{ a := { k := (n0 : Int), s := (n1 : Int), n := (n2 : Int) - 1, b := (n3 : Int) - 1, m := (n4 : Int), ek := (n5 : Int), p := ⟨t6.toArray⟩, t := ⟨t7.toArray⟩, x := t8, kl := kl, cl := cl }, xA := A8, xc := c8, kA := Bk, kc := dk, cA := Bc, cc := dc }], B4, d4, i + 1, L10, f10, by simp, by go_num, by omega, hp.1, hE4, hLn, by show _ = _; rw [List.length_append, hjj]; rfl, by omega⟩
                      case measure => simp [intOf]; omega
                  · obtain rfl : k = nc := by omega
                    have hl_ : listN choS k Lc gc = (sc, Lx, gx) := by rw [hLx.out, Nat.sub_self]; simp [listN]
                    rw [HCH.out] at hl_
                    injection hl_ with hl1 hl2
                    injection hl2 with hl2 hl3
                    subst hl1 hl2 hl3
                    clear hLx
                    have rowA := hrow.fr htx.fr (fun g hg e => by have := (hBl g hg).1; omega) (fun b _ hz _ e => hz e)
                    have r0 : wx.cell? ⟨wq.heap.size, 0, none⟩ = some (.int .i64 (n0 : Int)) := bxx.cell 0
                    have r1 : wx.cell? ⟨wq.heap.size, 1, none⟩ = some (.int .i64 (n1 : Int)) := bxx.cell 1
                    have r2 : wx.cell? ⟨wq.heap.size, 2, none⟩ = some (.int .i64 ((n2 : Int) - 1)) := bxx.cell 2
                    have r3 : wx.cell? ⟨wq.heap.size, 3, none⟩ = some (.int .i64 ((n3 : Int) - 1)) := bxx.cell 3
                    have r4 : wx.cell? ⟨wq.heap.size, 4, none⟩ = some (.int .u32 (n4 : Int)) := bxx.cell 4
                    have r5 : wx.cell? ⟨wq.heap.size, 5, none⟩ = some (.int .i64 (n5 : Int)) := bxx.cell 5
                    have r6 : wx.cell? ⟨wq.heap.size, 6, none⟩ = some (.string ⟨t6.toArray⟩) := bxx.cell 6
                    have r7 : wx.cell? ⟨wq.heap.size, 7, none⟩ = some (.string ⟨t7.toArray⟩) := bxx.cell 7
                    have r8 : wx.cell? ⟨wq.heap.size, 8, none⟩ = some (.slice A8 t8.length c8) := bxx.cell 8
                    have r9 : wx.cell? ⟨wq.heap.size, 9, none⟩ = some (.slice Bk kl.length dk) := bxx.cell 9
                    have r10 : wx.cell? ⟨wq.heap.size, 10, none⟩ = some (.slice Bc cl.length dc) := bxx.cell 10
                    have hkl_ := hkx.lt
                    have hqx := htx.fr.size
                    clear hax
                    go_wp2_with (at_builtin; refine wpList_append_row _ rfl (.tmp 133) (.tmp 135) 50 rfl (w.heap.size + 1) 57 i0 _ 11 152 Try.underlying50 hi0 hz0 hz1 hz2 rfl (by omega) rfl (rowA.row.alloc _) rfl (Rd.lit (xs := [.int .i64 (n0 : Int), .int .i64 (n1 : Int), .int .i64 ((n2 : Int) - 1), .int .i64 ((n3 : Int) - 1), .int .u32 (n4 : Int), .int .i64 (n5 : Int), .string ⟨t6.toArray⟩, .string ⟨t7.toArray⟩, .slice A8 t8.length c8, .slice Bk kl.length dk, .slice Bc cl.length dc]) (n := 1) rfl rfl rfl) (by simp [Value.oneCell']) (by simp only [maxLen]; omega) (by omega) (by rw [World.size_alloc]; omega) ?_; intro B4 d4 w4 hrow4 hg4 hat4)
                    have hp := rowA.push (v := { a := { k := (n0 : Int), s := (n1 : Int), n := (n2 : Int) - 1, b := (n3 : Int) - 1, m := (n4 : Int), ek := (n5 : Int), p := ⟨t6.toArray⟩, t := ⟨t7.toArray⟩, x := t8, kl := kl, cl := cl }, xA := A8, xc := c8, kA := Bk, kc := dk, cA := Bc, cc := dc }) ⟨hyx.mono (fun b _ hb => ⟨by (try simp at hb); omega, fun e => by have := (hBl b e).1; (try simp at hb); omega⟩), hkx.rd.mono (fun b _ hb => by have h1 := (hkl_ b hb).1; exact ⟨by omega, fun e => by have := (hBl b e).2; omega⟩), hrow_.rd.mono (fun b _ hb => by have h1 := (hrl b hb).1; exact ⟨by omega, fun e => by have := (hBl b e).2; omega⟩), hfit.out.1⟩ hrow4 hg4 hat4
                    have hE4 := (hE.trans htx).row hp.2 (fun k e => by have := (hBl k e).1; omega) (by omega) (fun b hb => by (try simp at hb); omega)
                    have hLn : Hid (∀ t L' g', RdN (nn - (i + 1)) L10 f10 t L' g' → RdN nn LL ff ((s ++ [({ a := { k := (n0 : Int), s := (n1 : Int), n := (n2 : Int) - 1, b := (n3 : Int) - 1, m := (n4 : Int), ek := (n5 : Int), p := ⟨t6.toArray⟩, t := ⟨t7.toArray⟩, x := t8, kl := kl, cl := cl }, xA := A8, xc := c8, kA := Bk, kc := dk, cA := Bc, cc := dc } : AV)]).map AV.a ++ t) L' g') := fun t L' g' h => by
                      rw [List.map_append, List.append_assoc]
                      refine hL.out _ _ _ ?_
                      rw [show nn - i = (nn - (i + 1)) + 1 by omega]
                      exact .step HR.out h
                    have hfl := hfit.out.2
                    have hjj := hj.out
                    go_roundw
                    case rel => exact ⟨s ++ [{ a := { k := (n0 : Int), s := (n1 : Int), n := (n2 : Int) - 1, b := (n3 : Int) - 1, m := (n4 : Int), ek := (n5 : Int), p := ⟨t6.toArray⟩, t := ⟨t7.toArray⟩, x := t8, kl := kl, cl := cl }, xA := A8, xc := c8, kA := Bk, kc := dk, cA := Bc, cc := dc }], B4, d4, i + 1, L10, f10, by simp, by go_num, by omega, hp.1, hE4, hLn, by show _ = _; rw [List.length_append, hjj]; rfl, by omega⟩
                    case measure => simp [intOf]; omega
            · obtain rfl : k = nk := by omega
              have hl_ : listN keepS k Lk gk = (sk, Lx, gx) := by rw [hLx.out, Nat.sub_self]; simp [listN]
              rw [HK.out] at hl_
              injection hl_ with hl1 hl2
              injection hl2 with hl2 hl3
              subst hl1 hl2 hl3
              clear hLx
              go_wp2_with fail
              refine (H10.out _ Ax cx hax).mono ?_
              rintro e w10 ⟨rfl, h10⟩
              (try dsimp only at h10)
              have bxC := bxx.fr h10.fr (by omega)
              have htC := htx.trans h10
              have hyC := hyx.fr h10.fr (fun b _ hb e => by (try simp at hb); omega)
              have hkC := hrow_.fr h10.fr (fun g hg e => by have := (hrl g hg).1; omega)
              clear bxx htx hyx h10 hax cc sx hrl hrow_
              obtain ⟨wk, rfl⟩ : ∃ wk : World, wk = wx := ⟨_, rfl⟩
              go_wp2_with fail
              go_loopw [12] (fun kv wx => ∃ (sc : List HW) (Bc : Option Addr) (dc k : Nat) (Lx : List UInt8) (gx : Int), kv = .int .i64 (k : Int) ∧ k ≤ nc ∧ Hid (sc.length = k) ∧ Hid (listN choS nc Lc gc = (sc ++ (listN choS (nc - k) Lx gx).1, (listN choS (nc - k) Lx gx).2)) ∧ EyeTo wq 109 w.heap.size (fun b => b < w.heap.size) Lx gx wx ∧ Blk wx wq.heap.size 57 #[.int .i64 (n0 : Int), .int .i64 (n1 : Int), .int .i64 ((n2 : Int) - 1), .int .i64 ((n3 : Int) - 1), .int .u32 (n4 : Int), .int .i64 (n5 : Int), .string ⟨t6.toArray⟩, .string ⟨t7.toArray⟩, .slice A8 t8.length c8, .slice Bk kl.length dk, .slice Bc sc.length dc] ∧ Row wx (wq.heap.size + 1) 95 2 Bc sc.length dc (sc.flatMap HW.cells) ∧ By wx (fun b => b < w.heap.size) A8 t8 ∧ Row wx (wq.heap.size + 1) 91 2 Bk kl.length dk (kl.flatMap KV.cells)) (fun kv _ => nc - (intOf kv).toNat)
              case atStart => exact ⟨[], none, 0, 0, Lc, gc, rfl, Nat.zero_le _, rfl, by show _ = _; simp, htC, bxC, Row.none_ _ _ _ _, hyC, hkC⟩
              case round =>
                obtain ⟨sc, Bc, dc, k, Lx, gx, rfl, hk, hsl, hLx, htx, bxx, hrow_, hyx, hkx⟩ := hrel
                obtain ⟨wx, rfl⟩ : ∃ wx : World, wx = wr := ⟨_, rfl⟩
                obtain ⟨Ax, cx, hax⟩ := htx.at_
                have cc := hax.c1
                have sx := bxx.lt
                have hrl := hrow_.lt
                have hsb_ : sc.length ≤ 8 := by have := hsl.out; omega
                by_cases hkn : k < nc
                · by_cases hgx : gx = 0
                  · subst hgx
                    obtain ⟨m1, K1, g1_, ek1⟩ : ∃ n L g, textS Lx 0 96 = (n, L, g) := ⟨_, _, _, rfl⟩
                    obtain ⟨m2, K2, g2_, ek2⟩ : ∃ n L g, intS K1 g1_ 2 = (n, L, g) := ⟨_, _, _, rfl⟩
                    have hsp : choS Lx 0 = (⟨⟨m1.toArray⟩, (m2 : Int)⟩, K2, g2_) := by unfold choS; rw [ek1]; dsimp only; rw [ek2]
                    have J1 := Lib.hid (fun W A c h => textR_any w.heap.size (fun b => b < w.heap.size) A c Lx 0 96 W h hzz (by omega))
                    have J2 := Lib.hid (fun W A c h => intR_any w.heap.size (fun b => b < w.heap.size) A c K1 g1_ 2 W h hzz (by omega))
                    rw [ek1] at J1
                    rw [ek2] at J2
                    have hL2 : Hid (listN choS nc Lc gc = ((sc ++ [⟨⟨m1.toArray⟩, (m2 : Int)⟩]) ++ (listN choS (nc - (k + 1)) K2 g2_).1, (listN choS (nc - (k + 1)) K2 g2_).2)) := by
                      show _ = _
                      rw [hLx.out, show nc - k = (nc - (k + 1)) + 1 by omega, listN_ok, hsp]
                      simp
                    clear ek1 ek2 hsp hLx
                    have bX := Blk.new wx 95 #[.string ⟨#[]⟩, .int .i64 0]
                    have hbX : Below wx.heap.size wx (wx.alloc (.cells #[.string ⟨#[]⟩, .int .i64 0] 95)) := (by repeat (first | exact Below.refl _ _ | refine Below.alloc ?_ (by simp) _ | refine Below.setCell ?_ (by simp) _ | refine Below.drew ?_))
                    have hzX : ∀ x, (fun b => b < w.heap.size) x → x ≠ wx.heap.size := fun x hx e => by (try simp at hx); omega
                    have hqx := htx.fr.size
                    go_wp2_with fail
                    refine (J1.out _ Ax cx (hax.below hbX)).mono ?_
                    rintro e y1 ⟨A_, n_, c_, rfl, hn_, hr_, _, _, i1⟩
                    (try dsimp only at i1 hr_)
                    obtain rfl : n_ = m1.length := hn_.out
                    have k_ := conv_by hr_ c_
                    have bX1 := bX.fr i1.fr (by omega)
                    have qq : y1.cell? ⟨wx.heap.size, 0, none⟩ = some (.string ⟨#[]⟩) := bX1.cell 0
                    have zz := bX1.frozen 0
                    have tx1 := (htx.then_ hbX).trans i1
                    have F1 := (Fr.of_below hbX (fun b => b = w.heap.size)).trans i1.fr (fun _ _ h => h)
                    clear cc bX hax i1 hr_ hn_
                    go_wp2_with fail
                    obtain ⟨tx2, bX2, hf_⟩ := box_set (o := 0) tx1 bX1 (by omega) (by omega) hzX (.string ⟨m1.toArray⟩)
                    simp only [List.setIfInBounds_toArray, List.set_cons_zero] at bX2
                    have F2 := F1.trans hf_ (fun x hx e => absurd e (by omega))
                    clear qq zz tx1 bX1 hf_ F1 J1 k_
                    generalize y1.setCell ⟨wx.heap.size, 0, none⟩ (.string ⟨m1.toArray⟩) = Y1 at *
                    obtain ⟨A_, c_, ha_⟩ := tx2.at_
                    refine (J2.out _ A_ c_ ha_).mono ?_
                    rintro e y2 ⟨rfl, i2⟩
                    (try dsimp only at i2)
                    have bX3 := bX2.fr i2.fr (by omega)
                    have qq : y2.cell? ⟨wx.heap.size, 1, none⟩ = some (.int .i64 0) := bX3.cell 1
                    have zz := bX3.frozen 1
                    have q0 : y2.cell? ⟨wx.heap.size, 0, none⟩ = some (.string ⟨m1.toArray⟩) := bX3.cell 0
                    obtain ⟨tx4, bX4, hf_⟩ := box_set (o := 1) (tx2.trans i2) bX3 (by omega) (by omega) hzX (.int .i64 (m2 : Int))
                    have F3 := (F2.trans i2.fr (fun _ _ h => h)).trans hf_ (fun x hx e => absurd e (by omega))
                    have b2 := bxx.fr (F2.trans i2.fr (fun _ _ h => h)) (by omega)
                    have b3 := bxx.fr F3 (by omega)
                    have row3 := hrow_.fr F3 (fun g hg e => by have := (hrl g hg).1; omega)
                    have y3 := hyx.fr F3 (fun b _ hb e => by (try simp at hb); omega)
                    have k3 := hkx.fr F3 (fun g hg e => by have := (hkx.lt g hg).1; omega)
                    have s3 := F3.size
                    have p9 : y2.cell? ⟨wq.heap.size, 10, none⟩ = some (.slice Bc sc.length dc) := b2.cell 10
                    have hneX : ¬ wq.heap.size = wx.heap.size := by omega
                    have hneX2 : ¬ wx.heap.size = wq.heap.size := by omega
                    have hBne := hrow_.ne_blk bxx (by decide)
                    obtain ⟨i1_, hi1_, hw0_, hw1_, hw2_⟩ := info_parts hw_info
                    clear tx2 bX2 bX3 i2 ha_ F2 b2 J2 hf_
                    go_wp2_with (at_builtin; (refine wpList_append_row _ rfl (.tmp 128) (.tmp 130) 55 rfl (wq.heap.size + 1) 95 i1_ _ 2 24 Try.underlying55 hi1_ hw0_ hw1_ hw2_ rfl (by omega) rfl (row3.alloc _) rfl (Rd.lit (xs := [.string ⟨m1.toArray⟩, .int .i64 (m2 : Int)]) (n := 1) rfl rfl (by first | rfl | simp [World.setCell])) (by simp [Value.oneCell']) (by simp only [maxLen]; omega) (by omega) (by rw [World.size_alloc]; omega) ?_; intro B4 d4 w5 hrow4 hg4 hat4; have b5 := (b3.alloc (.cells #[.string ⟨m1.toArray⟩, .int .i64 (m2 : Int)] 95)).grown hg4 hBne; have p5 : w5.cell? ⟨wq.heap.size, 10, none⟩ = some (.slice Bc sc.length dc) := b5.cell 10; have z5 := b5.frozen 10; have k5 := (k3.alloc (.cells #[.string ⟨m1.toArray⟩, .int .i64 (m2 : Int)] 95)).fr (Fr.of_grown hg4 (S := fun x => ablk Bc = some x) (fun _ _ e => e)) (fun g hg e => Row.ne_row k3 row3 (by decide) g hg e)))
                    skip
                    have fr4 := Fr.of_grown hg4 (S := fun x => ablk Bc = some x) (fun _ _ e => e)
                    have t5 := (tx4.then_ (c := (y2.setCell ⟨wx.heap.size, 1, none⟩ (.int .i64 (m2 : Int))).alloc (.cells #[.string ⟨m1.toArray⟩, .int .i64 (m2 : Int)] 95)) (by repeat (first | exact Below.refl _ _ | refine Below.alloc ?_ (by simp) _ | refine Below.setCell ?_ (by simp) _ | refine Below.drew ?_))).row (B := ablk Bc) fr4 (fun x e => by have := (hrl x e).1; omega) (by omega) (fun x hx => by (try simp at hx); omega)
                    have f6 : Fr (fun x => x = wq.heap.size) w5 (w5.setCell ⟨wq.heap.size, 10, none⟩ (.slice B4 (sc.length + 1) d4)) := (Fr.refl (fun x => x = wq.heap.size) w5).setAt _ 10 rfl _
                    have b6 := b5.set_ 10 (.slice B4 (sc.length + 1) d4)
                    simp only [List.setIfInBounds_toArray, List.set_cons_zero, List.set_cons_succ] at b6
                    have r4 : Row w5 (wq.heap.size + 1) 95 2 B4 (sc ++ [(⟨⟨m1.toArray⟩, (m2 : Int)⟩ : HW)]).length d4 ((sc ++ [(⟨⟨m1.toArray⟩, (m2 : Int)⟩ : HW)]).flatMap HW.cells) := by
                      rw [List.length_append, List.flatMap_append, List.flatMap_cons, List.flatMap_nil, List.append_nil]
                      exact hrow4
                    have y5 := (y3.alloc (.cells #[.string ⟨m1.toArray⟩, .int .i64 (m2 : Int)] 95)).fr fr4 (fun b _ hb e => by have := (hrl b e).1; (try simp at hb); omega)
                    go_roundw
                    case rel => exact ⟨sc ++ [⟨⟨m1.toArray⟩, (m2 : Int)⟩], B4, d4, k + 1, K2, g2_, by go_num, by omega, by show _ = _; rw [List.length_append, hsl.out]; rfl, hL2, t5.side f6 (Nat.le_refl _) (by omega) hzw, by simpa using b6, r4.fr f6 (fun g hg e => (r4.ne_blk b5 (by decide)) (by rw [hg, e])), y5.fr f6 (fun b _ hb e => by (try simp at hb); omega), k5.fr f6 (fun g hg e => (k5.ne_blk b5 (by decide)) (by rw [hg, e]))⟩
                    case measure => simp [intOf]; omega
                  · have hgb : (gx == 0) = false := by simpa using hgx
                    have hl_ : listN choS nc Lc gc = (sc, Lx, gx) := by rw [hLx.out, listN_bad hgx]; simp
                    rw [HCH.out] at hl_
                    injection hl_ with hl1 hl2
                    injection hl2 with hl2 hl3
                    subst hl1 hl2 hl3
                    clear hLx
                    have rowA := hrow.fr htx.fr (fun g hg e => by have := (hBl g hg).1; omega) (fun b _ hz _ e => hz e)
                    have r0 : wx.cell? ⟨wq.heap.size, 0, none⟩ = some (.int .i64 (n0 : Int)) := bxx.cell 0
                    have r1 : wx.cell? ⟨wq.heap.size, 1, none⟩ = some (.int .i64 (n1 : Int)) := bxx.cell 1
                    have r2 : wx.cell? ⟨wq.heap.size, 2, none⟩ = some (.int .i64 ((n2 : Int) - 1)) := bxx.cell 2
                    have r3 : wx.cell? ⟨wq.heap.size, 3, none⟩ = some (.int .i64 ((n3 : Int) - 1)) := bxx.cell 3
                    have r4 : wx.cell? ⟨wq.heap.size, 4, none⟩ = some (.int .u32 (n4 : Int)) := bxx.cell 4
                    have r5 : wx.cell? ⟨wq.heap.size, 5, none⟩ = some (.int .i64 (n5 : Int)) := bxx.cell 5
                    have r6 : wx.cell? ⟨wq.heap.size, 6, none⟩ = some (.string ⟨t6.toArray⟩) := bxx.cell 6
                    have r7 : wx.cell? ⟨wq.heap.size, 7, none⟩ = some (.string ⟨t7.toArray⟩) := bxx.cell 7
                    have r8 : wx.cell? ⟨wq.heap.size, 8, none⟩ = some (.slice A8 t8.length c8) := bxx.cell 8
                    have r9 : wx.cell? ⟨wq.heap.size, 9, none⟩ = some (.slice Bk kl.length dk) := bxx.cell 9
                    have r10 : wx.cell? ⟨wq.heap.size, 10, none⟩ = some (.slice Bc cl.length dc) := bxx.cell 10
                    have hkl_ := hkx.lt
                    have hqx := htx.fr.size
                    clear hax
                    go_wp2_with (at_builtin; refine wpList_append_row _ rfl (.tmp 133) (.tmp 135) 50 rfl (w.heap.size + 1) 57 i0 _ 11 152 Try.underlying50 hi0 hz0 hz1 hz2 rfl (by omega) rfl (rowA.row.alloc _) rfl (Rd.lit (xs := [.int .i64 (n0 : Int), .int .i64 (n1 : Int), .int .i64 ((n2 : Int) - 1), .int .i64 ((n3 : Int) - 1), .int .u32 (n4 : Int), .int .i64 (n5 : Int), .string ⟨t6.toArray⟩, .string ⟨t7.toArray⟩, .slice A8 t8.length c8, .slice Bk kl.length dk, .slice Bc cl.length dc]) (n := 1) rfl rfl rfl) (by simp [Value.oneCell']) (by simp only [maxLen]; omega) (by omega) (by rw [World.size_alloc]; omega) ?_; intro B4 d4 w4 hrow4 hg4 hat4)
                    have hp := rowA.push (v := { a := { k := (n0 : Int), s := (n1 : Int), n := (n2 : Int) - 1, b := (n3 : Int) - 1, m := (n4 : Int), ek := (n5 : Int), p := ⟨t6.toArray⟩, t := ⟨t7.toArray⟩, x := t8, kl := kl, cl := cl }, xA := A8, xc := c8, kA := Bk, kc := dk, cA := Bc, cc := dc }) ⟨hyx.mono (fun b _ hb => ⟨by (try simp at hb); omega, fun e => by have := (hBl b e).1; (try simp at hb); omega⟩), hkx.rd.mono (fun b _ hb => by have h1 := (hkl_ b hb).1; exact ⟨by omega, fun e => by have := (hBl b e).2; omega⟩), hrow_.rd.mono (fun b _ hb => by have h1 := (hrl b hb).1; exact ⟨by omega, fun e => by have := (hBl b e).2; omega⟩), hfit.out.1⟩ hrow4 hg4 hat4
                    have hE4 := (hE.trans htx).row hp.2 (fun k e => by have := (hBl k e).1; omega) (by omega) (fun b hb => by (try simp at hb); omega)
                    have hLn : Hid (∀ t L' g', RdN (nn - (i + 1)) L10 f10 t L' g' → RdN nn LL ff ((s ++ [({ a := { k := (n0 : Int), s := (n1 : Int), n := (n2 : Int) - 1, b := (n3 : Int) - 1, m := (n4 : Int), ek := (n5 : Int), p := ⟨t6.toArray⟩, t := ⟨t7.toArray⟩, x := t8, kl := kl, cl := cl }, xA := A8, xc := c8, kA := Bk, kc := dk, cA := Bc, cc := dc } : AV)]).map AV.a ++ t) L' g') := fun t L' g' h => by
                      rw [List.map_append, List.append_assoc]
                      refine hL.out _ _ _ ?_
                      rw [show nn - i = (nn - (i + 1)) + 1 by omega]
                      exact .step HR.out h
                    have hfl := hfit.out.2
                    have hjj := hj.out
                    go_roundw
                    case rel => exact ⟨s ++ [{ a := { k := (n0 : Int), s := (n1 : Int), n := (n2 : Int) - 1, b := (n3 : Int) - 1, m := (n4 : Int), ek := (n5 : Int), p := ⟨t6.toArray⟩, t := ⟨t7.toArray⟩, x := t8, kl := kl, cl := cl }, xA := A8, xc := c8, kA := Bk, kc := dk, cA := Bc, cc := dc }], B4, d4, i + 1, L10, f10, by simp, by go_num, by omega, hp.1, hE4, hLn, by show _ = _; rw [List.length_append, hjj]; rfl, by omega⟩
                    case measure => simp [intOf]; omega
                · obtain rfl : k = nc := by omega
                  have hl_ : listN choS k Lc gc = (sc, Lx, gx) := by rw [hLx.out, Nat.sub_self]; simp [listN]
                  rw [HCH.out] at hl_
                  injection hl_ with hl1 hl2
                  injection hl2 with hl2 hl3
                  subst hl1 hl2 hl3
                  clear hLx
                  have rowA := hrow.fr htx.fr (fun g hg e => by have := (hBl g hg).1; omega) (fun b _ hz _ e => hz e)
                  have r0 : wx.cell? ⟨wq.heap.size, 0, none⟩ = some (.int .i64 (n0 : Int)) := bxx.cell 0
                  have r1 : wx.cell? ⟨wq.heap.size, 1, none⟩ = some (.int .i64 (n1 : Int)) := bxx.cell 1
                  have r2 : wx.cell? ⟨wq.heap.size, 2, none⟩ = some (.int .i64 ((n2 : Int) - 1)) := bxx.cell 2
                  have r3 : wx.cell? ⟨wq.heap.size, 3, none⟩ = some (.int .i64 ((n3 : Int) - 1)) := bxx.cell 3
                  have r4 : wx.cell? ⟨wq.heap.size, 4, none⟩ = some (.int .u32 (n4 : Int)) := bxx.cell 4
                  have r5 : wx.cell? ⟨wq.heap.size, 5, none⟩ = some (.int .i64 (n5 : Int)) := bxx.cell 5
                  have r6 : wx.cell? ⟨wq.heap.size, 6, none⟩ = some (.string ⟨t6.toArray⟩) := bxx.cell 6
                  have r7 : wx.cell? ⟨wq.heap.size, 7, none⟩ = some (.string ⟨t7.toArray⟩) := bxx.cell 7
                  have r8 : wx.cell? ⟨wq.heap.size, 8, none⟩ = some (.slice A8 t8.length c8) := bxx.cell 8
                  have r9 : wx.cell? ⟨wq.heap.size, 9, none⟩ = some (.slice Bk kl.length dk) := bxx.cell 9
                  have r10 : wx.cell? ⟨wq.heap.size, 10, none⟩ = some (.slice Bc cl.length dc) := bxx.cell 10
                  have hkl_ := hkx.lt
                  have hqx := htx.fr.size
                  clear hax
                  go_wp2_with (at_builtin; refine wpList_append_row _ rfl (.tmp 133) (.tmp 135) 50 rfl (w.heap.size + 1) 57 i0 _ 11 152 Try.underlying50 hi0 hz0 hz1 hz2 rfl (by omega) rfl (rowA.row.alloc _) rfl (Rd.lit (xs := [.int .i64 (n0 : Int), .int .i64 (n1 : Int), .int .i64 ((n2 : Int) - 1), .int .i64 ((n3 : Int) - 1), .int .u32 (n4 : Int), .int .i64 (n5 : Int), .string ⟨t6.toArray⟩, .string ⟨t7.toArray⟩, .slice A8 t8.length c8, .slice Bk kl.length dk, .slice Bc cl.length dc]) (n := 1) rfl rfl rfl) (by simp [Value.oneCell']) (by simp only [maxLen]; omega) (by omega) (by rw [World.size_alloc]; omega) ?_; intro B4 d4 w4 hrow4 hg4 hat4)
                  have hp := rowA.push (v := { a := { k := (n0 : Int), s := (n1 : Int), n := (n2 : Int) - 1, b := (n3 : Int) - 1, m := (n4 : Int), ek := (n5 : Int), p := ⟨t6.toArray⟩, t := ⟨t7.toArray⟩, x := t8, kl := kl, cl := cl }, xA := A8, xc := c8, kA := Bk, kc := dk, cA := Bc, cc := dc }) ⟨hyx.mono (fun b _ hb => ⟨by (try simp at hb); omega, fun e => by have := (hBl b e).1; (try simp at hb); omega⟩), hkx.rd.mono (fun b _ hb => by have h1 := (hkl_ b hb).1; exact ⟨by omega, fun e => by have := (hBl b e).2; omega⟩), hrow_.rd.mono (fun b _ hb => by have h1 := (hrl b hb).1; exact ⟨by omega, fun e => by have := (hBl b e).2; omega⟩), hfit.out.1⟩ hrow4 hg4 hat4
                  have hE4 := (hE.trans htx).row hp.2 (fun k e => by have := (hBl k e).1; omega) (by omega) (fun b hb => by (try simp at hb); omega)
                  have hLn : Hid (∀ t L' g', RdN (nn - (i + 1)) L10 f10 t L' g' → RdN nn LL ff ((s ++ [({ a := { k := (n0 : Int), s := (n1 : Int), n := (n2 : Int) - 1, b := (n3 : Int) - 1, m := (n4 : Int), ek := (n5 : Int), p := ⟨t6.toArray⟩, t := ⟨t7.toArray⟩, x := t8, kl := kl, cl := cl }, xA := A8, xc := c8, kA := Bk, kc := dk, cA := Bc, cc := dc } : AV)]).map AV.a ++ t) L' g') := fun t L' g' h => by
                    rw [List.map_append, List.append_assoc]
                    refine hL.out _ _ _ ?_
                    rw [show nn - i = (nn - (i + 1)) + 1 by omega]
                    exact .step HR.out h
                  have hfl := hfit.out.2
                  have hjj := hj.out
                  go_roundw
                  case rel => exact ⟨s ++ [{ a := { k := (n0 : Int), s := (n1 : Int), n := (n2 : Int) - 1, b := (n3 : Int) - 1, m := (n4 : Int), ek := (n5 : Int), p := ⟨t6.toArray⟩, t := ⟨t7.toArray⟩, x := t8, kl := kl, cl := cl }, xA := A8, xc := c8, kA := Bk, kc := dk, cA := Bc, cc := dc }], B4, d4, i + 1, L10, f10, by simp, by go_num, by omega, hp.1, hE4, hLn, by show _ = _; rw [List.length_append, hjj]; rfl, by omega⟩
                  case measure => simp [intOf]; omega
      · have hgb : (g == 0) = false := by simpa using hg
        have hq := hfin.out (.bad hg)
        clear hfin hL
        go_wp2_with fail
        refine hC.out.mono ?_
        rintro e w2 ⟨rfl, rfl⟩
        clear k1
        cases hcz : (closeS L g != 0)
        · have hcl : closeS L g = 0 := by simpa using hcz
          rw [if_neg (by simpa using hcl)] at hq
          have HQ := Lib.hid hq
          clear hq
          generalize closeS L g = k at *
          subst hcl
          go_wp2_with fail
          go_ret2
          exact ⟨B, d, s, 0, rfl, HQ.out, (hrow.acts (fun b hb _ => by omega) (by omega)).mono (fun _ _ _ => trivial), hbw⟩
        · have hcl : closeS L g ≠ 0 := by simpa using hcz
          rw [if_pos hcl] at hq
          have HQ := Lib.hid hq
          clear hq
          generalize closeS L g = k at *
          go_wp2_with fail
          go_ret2
          exact ⟨none, 0, [], k, rfl, HQ.out, ⟨Rd.nil, by simp, by simp⟩, hbw⟩
    · have hq := hfin.out (by rw [show nn - i = 0 by omega]; exact .zero)
      clear hfin hL
      go_wp2_with fail
      refine hC.out.mono ?_
      rintro e w2 ⟨rfl, rfl⟩
      clear k1
      cases hcz : (closeS L g != 0)
      · have hcl : closeS L g = 0 := by simpa using hcz
        rw [if_neg (by simpa using hcl)] at hq
        have HQ := Lib.hid hq
        clear hq
        generalize closeS L g = k at *
        subst hcl
        go_wp2_with fail
        go_ret2
        exact ⟨B, d, s, 0, rfl, HQ.out, (hrow.acts (fun b hb _ => by omega) (by omega)).mono (fun _ _ _ => trivial), hbw⟩
      · have hcl : closeS L g ≠ 0 := by simpa using hcz
        rw [if_pos hcl] at hq
        have HQ := Lib.hid hq
        clear hq
        generalize closeS L g = k at *
        go_wp2_with fail
        go_ret2
        exact ⟨none, 0, [], k, rfl, HQ.out, ⟨Rd.nil, by simp, by simp⟩, hbw⟩
end Go.Proofs.Ytpbgcbpofhbgbaa
