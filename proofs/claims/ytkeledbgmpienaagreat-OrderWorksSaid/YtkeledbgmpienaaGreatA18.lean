/- tenderlaw28: OrderWorks. -/
import Derived.Test.YtkeledbgmpienaaGreatA17

namespace Go.Proofs.YtkeledbgmpienaaGreat
open Go.RowKit Go.WideShapes Go.ChangeShapes Go.ChangeAt Go.Maps

theorem sortsW : SortsC 1000 := fun A c base X w h hp hl => sortsAll A c base X w h hp (by omega)
theorem plainL_get (L : List (List UInt8 × LV)) (i : Nat) (hi : i < L.length) : (plainL L).drop i = (L[i].1, L[i].2.p) :: (plainL L).drop (i + 1) := by
  unfold plainL
  rw [List.drop_eq_getElem_cons (by rw [List.length_map]; exact hi), List.getElem_map]
theorem agB_drop (L : List (List UInt8 × LV)) (i : Nat) (hi : i < L.length) (acc : List (List UInt8 × EP)) : agB i ((plainL L).drop i) acc = agB (i + 1) ((plainL L).drop (i + 1)) (putP acc L[i].1 (1048576 + (i : Int) + 1, L[i].2.k, L[i].2.x.l)).1 := by
  rw [plainL_get L i hi]; rfl
theorem agB_end (L : List (List UInt8 × LV)) (n : Nat) (acc : List (List UInt8 × EP)) : agB n ((plainL L).drop L.length) acc = acc := by
  rw [List.drop_of_length_le (by unfold plainL; rw [List.length_map]; exact Nat.le_refl _)]; rfl
theorem planS_len1 (l : List CV) : (planS l).length ≤ l.length := by
  unfold planS
  rw [List.length_append, List.length_reverse]
  have h : ∀ l : List CV, (l.filter remB).length + (l.filter keepB).length ≤ l.length := by
    intro l
    induction l with
    | nil => simp
    | cons x l ih =>
      rw [List.filter_cons, List.filter_cons, List.length_cons]
      have hx : remB x = true → keepB x = false := fun e => by unfold keepB; rw [e]; rfl
      rcases h1 : remB x with _ | _
      · rcases h2 : keepB x with _ | _
        · simp; omega
        · simp; omega
      · rw [hx h1]; simp; omega
  have := h (sortC ltC l)
  rwa [sortC_len] at this
/-- two leaves told, two variables made -/
def GotJ (w0 : World) (a b : LP) (v1 v2 v3 v4 : Value) (W : World) : Prop :=
  ∃ (A30 : Option Addr) (c30 : Nat) (l30 : List UInt8) (A31 : Option Addr) (c31 : Nat) (l31 : List UInt8) (zp zq : Nat), v1 = .agg #[.int .i64 a.1, .slice A30 l30.length c30] ∧ v2 = .agg #[.int .i64 b.1, .slice A31 l31.length c31] ∧ v3 = .pointer (some ⟨zp, 0, none⟩) ∧ v4 = .pointer (some ⟨zq, 0, none⟩) ∧
    Hid (l30 = a.2) ∧ Hid (l31 = b.2) ∧ OwB W 0 (.slice A30 l30.length c30) l30 ∧ OwB W 0 (.slice A31 l31.length c31) l31 ∧ Blk W zp 35 #[.int .i64 0, .slice none 0 0] ∧ Blk W zq 35 #[.int .i64 0, .slice none 0 0] ∧ zp ≠ zq ∧ w0.heap.size ≤ zp ∧ w0.heap.size ≤ zq ∧ Below w0.heap.size w0 W
theorem OwB.ne_leaf {w : World} {base : Nat} {v : Value} {l : List UInt8} {g : Nat} {cs : Array Value} (h : OwB w base v l) (hb : Blk w g 35 cs) : ∀ g', v.ownBlock = some g' → g' ≠ g := by
  rintro g' e rfl
  obtain ⟨A, c, rfl, _, _, _, _, hf⟩ := own_form h
  have h1 := (Row.of_own h).ne_blk hb (by decide)
  rcases A with _ | a
  · simp [Value.ownBlock] at e
  · simp [Value.ownBlock] at e
    exact h1 (by rw [← e]; rfl)
theorem same_true {k j : Int} {l m : List UInt8} {a : LP} (h1 : k = a.1) (h2 : j = a.1) (h3 : l = a.2) (h4 : m = a.2) : (k == j && l == m) = true := by
  rw [h1, h2, h3, h4]; simp
/-- no path is a machine's own -/
def notTilde (p : List UInt8) : Bool := !(p.head? == some 126)

set_option maxRecDepth 100000 in
set_option maxHeartbeats 3000000 in
theorem orderWorks_any (A : Option Addr) (c : Nat) (L0 : List (List UInt8 × LV)) (A' : Option Addr) (c' : Nat) (L1 : List (List UInt8 × LV)) (A'' : Option Addr) (c'' : Nat) (L2 : List (List UInt8 × LV)) (w : World) (h0 : ItA w A L0) (h1 : ItA w A' L1) (h2 : ItA w A'' L2) :
    Calls Tryz.prog 3 #[.slice A L0.length c, .slice A' L1.length c', .slice A'' L2.length c''] w fun e w' => e = .returned (.bool true) ∧ Below w.heap.size w w' := by
  have HL0 := Lib.hid (lightI_any A c L0 w h0)
  have HL1 := Lib.hid (fun W (hW : Below w.heap.size w W) => lightI_any A' c' L1 W (h1.below hW))
  have HL2 := Lib.hid (fun W (hW : Below w.heap.size w W) => lightI_any A'' c'' L2 W (h2.below hW))
  have HA := Lib.hid h0
  have HB := Lib.hid h1
  have HC := Lib.hid h2
  clear h0 h1 h2
  rcases hl0 : lightI L0 with _ | _
  · rw [hl0] at HL0
    go_enter Tryz.func3, Tryz.ntmps3
    go_wp2_with fail
    refine HL0.out.mono ?_
    rintro e w1 ⟨rfl, hw1⟩
    go_wp2_with fail
    refine (lives28_any _).mono ?_
    rintro e wl ⟨rfl, hbl⟩
    have hfin := hw1.trans (hbl.mono hw1.size)
    go_wp2_with fail
    go_ret
    exact ⟨rfl, hfin⟩
  rw [hl0] at HL0
  rcases hl1 : lightI L1 with _ | _
  · rw [hl1] at HL1
    go_enter Tryz.func3, Tryz.ntmps3
    go_wp2_with fail
    refine HL0.out.mono ?_
    rintro e w1 ⟨rfl, hw1⟩
    go_wp2_with fail
    refine (HL1.out _ hw1).mono ?_
    rintro e w2 ⟨rfl, hb2⟩
    have hw2 := hw1.trans (hb2.mono hw1.size)
    go_wp2_with fail
    refine (lives28_any _).mono ?_
    rintro e wl ⟨rfl, hbl⟩
    have hfin := hw2.trans (hbl.mono hw2.size)
    go_wp2_with fail
    go_ret
    exact ⟨rfl, hfin⟩
  rw [hl1] at HL1
  rcases hl2 : lightI L2 with _ | _
  · rw [hl2] at HL2
    go_enter Tryz.func3, Tryz.ntmps3
    go_wp2_with fail
    refine HL0.out.mono ?_
    rintro e w1 ⟨rfl, hw1⟩
    go_wp2_with fail
    refine (HL1.out _ hw1).mono ?_
    rintro e w2 ⟨rfl, hb2⟩
    have hw2 := hw1.trans (hb2.mono hw1.size)
    go_wp2_with fail
    refine (HL2.out _ hw2).mono ?_
    rintro e w3 ⟨rfl, hb3⟩
    have hw3 := hw2.trans (hb3.mono hw2.size)
    go_wp2_with fail
    refine (lives28_any _).mono ?_
    rintro e wl ⟨rfl, hbl⟩
    have hfin := hw3.trans (hbl.mono hw3.size)
    go_wp2_with fail
    go_ret
    exact ⟨rfl, hfin⟩
  rw [hl2] at HL2
  have hn0 := lightI_len hl0
  have hn1 := lightI_len hl1
  have hn2 := lightI_len hl2
  clear hl0 hl1 hl2
  have hq0 := hn0.1
  have hq1 := hn1.1
  have hq2 := hn2.1
  by_cases hcnt : (50 : Int) < (L0.length : Int) + (L1.length : Int) + (L2.length : Int)
  · go_enter Tryz.func3, Tryz.ntmps3
    go_wp2_with fail
    refine HL0.out.mono ?_
    rintro e w1 ⟨rfl, hw1⟩
    go_wp2_with fail
    refine (HL1.out _ hw1).mono ?_
    rintro e w2 ⟨rfl, hb2⟩
    have hw2 := hw1.trans (hb2.mono hw1.size)
    go_wp2_with fail
    refine (HL2.out _ hw2).mono ?_
    rintro e w3 ⟨rfl, hb3⟩
    have hw3 := hw2.trans (hb3.mono hw2.size)
    go_wp2_with fail
    refine (lives28_any _).mono ?_
    rintro e wl ⟨rfl, hbl⟩
    have hfin := hw3.trans (hbl.mono hw3.size)
    go_wp2_with fail
    go_ret
    exact ⟨rfl, hfin⟩
  go_enter Tryz.func3, Tryz.ntmps3
  go_wp2_with fail
  refine HL0.out.mono ?_
  rintro e w1 ⟨rfl, hw1⟩
  go_wp2_with fail
  refine (HL1.out _ hw1).mono ?_
  rintro e w2 ⟨rfl, hb2⟩
  have hw2 := hw1.trans (hb2.mono hw1.size)
  go_wp2_with fail
  refine (HL2.out _ hw2).mono ?_
  rintro e w3 ⟨rfl, hb3⟩
  have hw3 := hw2.trans (hb3.mono hw2.size)
  clear HL0 HL1 HL2 hb2 hb3
  go_wp2_with fail
  refine (plays08_any A' c' L1 w3 (HB.out.below hw3) hn1).mono ?_
  rintro e w4 ⟨tb4, mo4, La4, B4, d4, M4, rfl, hP, _, _, hb⟩
  have hw4 := hw3.trans (hb.mono hw3.size)
  have HP1 := Lib.hid hP
  have HD1 : Hid (DirsOk (playS [] (plainL L1))) := Lib.hid (play_dirs _ _ DirsOk.nil)
  have HO1 : Hid (TreeOk (playS [] (plainL L1))) := Lib.hid (play_ok _ _ TreeOk.nil)
  generalize playS [] (plainL L1) = T1 at *
  clear hP hb HB hn1
  go_wp2_with fail
  refine (plays08_any A'' c'' L2 w4 (HC.out.below hw4) hn2).mono ?_
  rintro e w5 ⟨tb5, mo5, La5, B5, d5, M5, rfl, hP, _, _, hb⟩
  have hw5 := hw4.trans (hb.mono hw4.size)
  replace HP1 := Lib.hid (HP1.out.below hb)
  have HP2 := Lib.hid hP
  have HD2 : Hid (DirsOk (playS [] (plainL L2))) := Lib.hid (play_dirs _ _ DirsOk.nil)
  have HO2 : Hid (TreeOk (playS [] (plainL L2))) := Lib.hid (play_ok _ _ TreeOk.nil)
  generalize playS [] (plainL L2) = T2 at *
  clear hP hb HC hn2
  go_wp2_with fail
  refine (plays08_any A c L0 w5 (HA.out.below hw5) hn0).mono ?_
  rintro e w6 ⟨tb6, mo6, La6, B6, d6, M6, rfl, hP, _, _, hb⟩
  have hw6 := hw5.trans (hb.mono hw5.size)
  replace HP1 := Lib.hid (HP1.out.below hb)
  replace HP2 := Lib.hid (HP2.out.below hb)
  have HP3 := Lib.hid hP
  have HO3 : Hid (TreeOk (playS [] (plainL L0))) := Lib.hid (play_ok _ _ TreeOk.nil)
  generalize playS [] (plainL L0) = T3 at *
  clear hP hb HA hn0
  have hM3 : M6.length ≤ 128 := by
    have := HO3.out.len
    rw [← HP3.out.same.out] at this
    unfold plainL at this
    rwa [List.length_map] at this
  have HAG : Hid (∃ AG, AG = agB 0 T3 []) := Lib.hid ⟨_, rfl⟩
  obtain ⟨AG, hAG⟩ := HAG.out
  have HAG := Lib.hid hAG
  clear hAG hcnt hq0 hq1 hq2
  go_wp2_with fail
  obtain ⟨zb, hzb⟩ : ∃ zb, zb = w6.heap.size := ⟨_, rfl⟩
  have HZB := Lib.hid hzb
  rw [← hzb]
  clear hzb
  go_loopw [86] (fun iv wr => ∃ (i : Nat) (AE : Option Addr) (cE : Nat) (E : List EV), i ≤ M6.length ∧ iv = .int .i64 (i : Int) ∧ Hid (agB i ((plainL M6).drop i) (E.map EV.pl) = AG) ∧ BookOk (E.map EV.pl) ∧ Blk wr zb 32 #[.int .u64 0, .slice AE E.length cE] ∧ EsR wr AE E ∧ Below w6.heap.size w6 wr) (fun iv _ => M6.length - (intOf iv).toNat)
  case atStart => exact ⟨0, none, 0, [], Nat.zero_le _, rfl, Lib.hid (by rw [List.drop_zero, HP3.out.same.out, HAG.out]; rfl), BookOk.nil, by have := Blk.new w6 32 #[.int .u64 0, .slice none 0 0]; rw [HZB.out]; exact this, ⟨Rd.nil, by simp, by simp⟩, (Below.refl _ _).alloc (Nat.le_refl _) _⟩
  case round =>
    obtain ⟨i, AE, cE, E, hi, rfl, hag, hbo, hblk, hes, hb⟩ := hrel
    by_cases hlt : i < M6.length
    · obtain ⟨b, off, rfl, hbb, c0, c1, c2⟩ := (HP3.out.its.below hb).at_ hlt
      obtain ⟨x, hx⟩ : ∃ x, x = M6[i] := ⟨_, rfl⟩
      have hxo := (HP3.out.its.below hb).ok _ (List.getElem_mem hlt)
      have hxt := HP3.out.its.txt _ (List.getElem_mem hlt)
      have hst := agB_drop M6 i hlt (E.map EV.pl)
      rw [hag.out] at hst
      rw [← hx] at c0 c1 c2 hxo hxt hst
      simp only [stv] at c0
      have HST := Lib.hid hst
      have hba : Below wr.heap.size wr (wr.alloc (.cells #[.string ⟨⟨x.1⟩⟩, .int .i64 x.2.k, .slice x.2.x.A x.2.x.l.length x.2.x.c] 37)) := (Below.refl _ _).alloc (Nat.le_refl _) _
      have bc := Blk.new wr 37 #[.string ⟨⟨x.1⟩⟩, .int .i64 x.2.k, .slice x.2.x.A x.2.x.l.length x.2.x.c]
      replace hxo := hxo.below hba
      replace hes := hes.below hba
      replace hblk := hblk.below hba
      have hr3 := hb.trans (hba.mono hb.size)
      have hu1 : IntKind.u64.wrap (i : Int) = (i : Int) := by rw [wrap_u64]; omega
      have hu2 : IntKind.u64.wrap (1048576 + (i : Int)) = 1048576 + (i : Int) := by rw [wrap_u64]; omega
      have hu3 : IntKind.u64.wrap (1048576 + (i : Int) + 1) = 1048576 + (i : Int) + 1 := by rw [wrap_u64]; omega
      clear hx hag hst
      go_upto_region 12 with (fail)
      obtain ⟨zi, hzi⟩ : ∃ zi, zi = wr.heap.size := ⟨_, rfl⟩
      rw [← hzi] at bc ⊢
      clear hzi hba hbb c0 c1 c2 hb
      generalize wr.alloc (.cells #[.string ⟨⟨x.1⟩⟩, .int .i64 x.2.k, .slice x.2.x.A x.2.x.l.length x.2.x.c] 37) = w3 at *
      have q0 := bc.cell 0
      have q1 := bc.cell 1
      have q2 := bc.cell 2
      have g0 := hblk.cell 0
      have g1 := hblk.cell 1
      simp only [List.getElem?_toArray, List.getElem?_cons_zero, List.getElem?_cons_succ] at q0 q1 q2 g0 g1
      have HPU := Lib.hid (refPut22_any AE cE E 0 ⟨⟨⟨x.1⟩⟩, 1048576 + (i : Int) + 1, x.2.k, x.2.x⟩ w3 hes hxo hxt.2 (by dsimp only; omega) (by show x.1.length ≤ _; exact hxt.1) hbo)
      have HBO : Hid (BookOk (putP (E.map EV.pl) (tl ⟨⟨x.1⟩⟩) (EV.ep ⟨⟨⟨x.1⟩⟩, 1048576 + (i : Int) + 1, x.2.k, x.2.x⟩)).1) := Lib.hid (hbo.put _ _)
      go_wp2_with fail
      refine HPU.out.mono ?_
      rintro e w4 ⟨⟨A4, c4, E4, rfl, hE4, hes4⟩, hb4⟩
      generalize (putP (E.map EV.pl) (tl ⟨⟨x.1⟩⟩) (EV.ep ⟨⟨⟨x.1⟩⟩, 1048576 + (i : Int) + 1, x.2.k, x.2.x⟩)).2 = er at *
      have hr4 := hr3.trans (hb4.mono hr3.size)
      have blk4 := hblk.below hb4
      have HBO4 : Hid (BookOk (E4.map EV.pl)) := Lib.hid (by rw [hE4.out]; exact HBO.out)
      have HAG4 : Hid (agB (i + 1) ((plainL M6).drop (i + 1)) (E4.map EV.pl) = AG) := Lib.hid (by rw [hE4.out]; exact HST.out.symm)
      have blk5 := (blk4.set_ 0 (.int .u64 0)).set_ 1 (.slice A4 E4.length c4)
      simp only [List.setIfInBounds_toArray, List.set_cons_zero, List.set_cons_succ] at blk5
      have fr5 : Fr (fun y => y = zb) w4 ((w4.setCell ⟨zb, 0, none⟩ (.int .u64 0)).setCell ⟨zb, 1, none⟩ (.slice A4 E4.length c4)) := ((Fr.refl (fun y => y = zb) w4).setAt zb 0 rfl _).setAt zb 1 rfl _
      have HES5 := Lib.hid (hes4.notBook blk4 (by simp) (by simp) fr5)
      have hr5 := hr4.trans (fr5.below (B := w6.heap.size) hr4.size (fun g hg e => by have := HZB.out; omega))
      have HBL5 := Lib.hid blk5
      have g0 := blk4.cell 0
      have g1 := blk4.cell 1
      simp only [List.getElem?_toArray, List.getElem?_cons_zero, List.getElem?_cons_succ] at g0 g1
      have fz0 := blk4.frozen 0
      have fz1 := blk4.frozen 1
      clear hE4 hes4 hb4 HBO HST blk5 HPU q0 q1 q2 hes hblk bc hxo hbo fr5
      go_wp2_with fail
      go_roundw
      case rel => exact ⟨i + 1, A4, c4, E4, hlt, by go_num, HAG4, HBO4.out, HBL5.out, HES5.out, hr5⟩
      case measure => simp [intOf]; omega
    · have e : i = M6.length := by omega
      have hAGE : E.map EV.pl = AG := by rw [← hag.out, e, agB_end]
      have HAGE := Lib.hid hAGE
      have HES := Lib.hid hes
      have HBK := Lib.hid hblk
      rename World => w7
      have hw7 := hw6.trans (hb.mono hw6.size)
      replace HP1 := Lib.hid (HP1.out.below hb)
      replace HP2 := Lib.hid (HP2.out.below hb)
      replace HP3 := Lib.hid (HP3.out.below hb)
      clear hag hbo hes hblk hAGE e
      go_wp2_with fail
      go_loopw [108] (fun iv wr => ∃ i : Nat, i ≤ M6.length ∧ iv = .int .i64 (i : Int) ∧ Hid (∀ x ∈ M6.take i, notTilde x.1 = true) ∧ Below w7.heap.size w7 wr) (fun iv _ => M6.length - (intOf iv).toNat)
      case atStart => exact ⟨0, Nat.zero_le _, rfl, Lib.hid (by simp), Below.refl _ _⟩
      case round =>
        obtain ⟨i, hi, rfl, hnt, hb2⟩ := hrel
        by_cases hlt : i < M6.length
        · obtain ⟨b, off, rfl, hbb, c0, c1, c2⟩ := (HP3.out.its.below hb2).at_ hlt
          obtain ⟨x, hx⟩ : ∃ x, x = M6[i] := ⟨_, rfl⟩
          have hgd : goodB x.1 = true := by
            have h1 : (x.1, x.2.p) ∈ T3 := by rw [← HP3.out.same.out, hx]; exact List.mem_map.2 ⟨_, List.getElem_mem hlt, rfl⟩
            exact (HO3.out.good _ h1).1
          have hnt2 : notTilde x.1 = true → ∀ y ∈ M6.take (i + 1), notTilde y.1 = true := by
            intro h y hy
            rw [List.take_succ_eq_append_getElem hlt, ← hx] at hy
            rcases List.mem_append.1 hy with hy | hy
            · exact hnt.out y hy
            · rw [List.mem_singleton] at hy; rw [hy]; exact h
          have HNT2 := Lib.hid hnt2
          rw [← hx] at c0 c1 c2
          simp only [stv] at c0
          obtain ⟨p, hp⟩ : ∃ p, p = x.1 := ⟨_, rfl⟩
          rw [← hp] at hgd HNT2 c0
          have hps : 0 < (⟨⟨p⟩⟩ : ByteArray).size := List.length_pos_iff.2 (goodB_ne hgd)
          have HHD : Hid (notTilde p = !((⟨⟨p⟩⟩ : ByteArray)[0] == 126)) := Lib.hid (by
            unfold notTilde
            rcases p with _ | ⟨a, p⟩
            · exact absurd rfl (goodB_ne hgd)
            · rfl)
          have hw8 := hw7.trans (hb2.mono hw7.size)
          clear hp hx hnt2 hgd
          rcases hT : ((((⟨⟨p⟩⟩ : ByteArray)[0]).toNat : Int) == 126) with _ | _
          · have hN : notTilde p = true := by
              rw [HHD.out]
              have : (⟨⟨p⟩⟩ : ByteArray)[0] ≠ 126 := fun e => by rw [e] at hT; cases hT
              simpa using this
            have HN := Lib.hid hN
            clear hN
            go_wp2_with fail
            go_roundw
            case rel => exact ⟨i + 1, hlt, by go_num, Lib.hid (HNT2.out HN.out), hb2.alloc hb2.size _⟩
            case measure => simp [intOf]; omega
          · have hwA := hw8.alloc hw8.size (.cells #[.string ⟨⟨p⟩⟩, .int .i64 x.2.k, .slice x.2.x.A x.2.x.l.length x.2.x.c] 37)
            go_wp2_with fail
            refine (lives28_any _).mono ?_
            rintro e wl ⟨rfl, hbl⟩
            have hfin := hwA.trans (hbl.mono hwA.size)
            go_wp2_with fail
            go_ret
            exact ⟨rfl, hfin⟩
        · have e : i = M6.length := by omega
          have hus : ∀ x ∈ T3, userB x.1 = true := by
            intro x hx
            rw [← HP3.out.same.out] at hx
            obtain ⟨y, hy, rfl⟩ := List.mem_map.1 hx
            have h1 : goodB y.1 = true := (HO3.out.good (y.1, y.2.p) (by rw [← HP3.out.same.out]; exact List.mem_map.2 ⟨y, hy, rfl⟩)).1
            have h2 := hnt.out y (by rw [e, List.take_length]; exact hy)
            unfold notTilde at h2
            unfold userB
            show (goodB y.1 && _) = true
            rw [h1, h2]; rfl
          have HKP : Hid (∀ p, kindP AG p = (getL T3 p).1) := Lib.hid (fun p => by rw [HAG.out]; exact agB_all HO3.out hus p)
          have hw8 := hw7.trans (hb2.mono hw7.size)
          rename World => w8
          replace HP1 := Lib.hid (HP1.out.below hb2)
          replace HP2 := Lib.hid (HP2.out.below hb2)
          replace HP3 := Lib.hid (HP3.out.below hb2)
          replace HES := Lib.hid (HES.out.below hb2)
          replace HBK := Lib.hid (HBK.out.below hb2)
          have hML : ∀ (M : List (List UInt8 × LV)) (T : PT), plainL M = T → TreeOk T → M.length ≤ 128 := fun M T e h => by
            have := h.len
            rw [← e] at this
            unfold plainL at this
            rwa [List.length_map] at this
          have hM1 := hML M4 T1 HP1.out.same.out HO1.out
          have hM2 := hML M5 T2 HP2.out.same.out HO2.out
          have HR1 := Lib.hid (fun W (hW : Below w8.heap.size w8 W) => rowsT_any B4 B6 d4 d6 M4 M6 W (HP1.out.its.below hW) (HP3.out.its.below hW) (by omega) (by rw [HP1.out.same.out, HP3.out.same.out]; exact diff_small HO1.out HO3.out))
          have HR2 := Lib.hid (fun W (hW : Below w8.heap.size w8 W) => rowsT_any B5 B6 d5 d6 M5 M6 W (HP2.out.its.below hW) (HP3.out.its.below hW) (by omega) (by rw [HP2.out.same.out, HP3.out.same.out]; exact diff_small HO2.out HO3.out))
          rw [HP1.out.same.out, HP3.out.same.out] at HR1
          rw [HP2.out.same.out, HP3.out.same.out] at HR2
          clear hnt e hus hML hb2
          go_wp2_with fail
          refine wp_region_p [(0, true), (1, true), (2, true), (4, true), (5, true), (3, false), (6, false), (7, false), (8, true)] (fun W => Below w8.heap.size w8 W) (by kernel_rfl) (by kernel_rfl) ?_
          simp only [List.map_cons, List.map_nil, List.filterMap_cons, List.filterMap_nil, List.getElem?_cons_zero, List.getElem?_cons_succ, List.length_cons, List.length_nil, Nat.zero_add, Nat.reduceAdd, List.drop_succ_cons, List.drop_zero]
          refine mx_val (by kernel_rfl) ⟨_, (by (intro w' hC; (have g0 := (HBK.out.below hC).cell 0; have g1 := (HBK.out.below hC).cell 1; simp only [List.getElem?_toArray, List.getElem?_cons_zero, List.getElem?_cons_succ] at g0 g1); clear hC; (try go_simp); (try with_reducible rfl); done)), _, (by (simp only [Act.put, List.setIfInBounds_toArray, List.set_cons_zero, List.set_cons_succ]; rfl)), ?_⟩
          refine mx_move _ (by kernel_rfl) rfl ⟨_, (by ((try simp [go_sem]); (try rfl); done)), _, (by (simp only [Act.put, List.setIfInBounds_toArray, List.set_cons_zero, List.set_cons_succ]; rfl)), ?_⟩
          refine mx_move _ (by kernel_rfl) rfl ⟨_, (by ((try simp [go_sem]); (try rfl); done)), _, (by (simp only [Act.put, List.setIfInBounds_toArray, List.set_cons_zero, List.set_cons_succ]; rfl)), ?_⟩
          refine mx_move _ (by kernel_rfl) rfl ⟨_, (by ((try simp [go_sem]); (try rfl); done)), _, (by (simp only [Act.put, List.setIfInBounds_toArray, List.set_cons_zero, List.set_cons_succ]; rfl)), ?_⟩
          refine mx_move _ (by kernel_rfl) rfl ⟨_, (by ((try simp [go_sem]); (try rfl); done)), _, (by (simp only [Act.put, List.setIfInBounds_toArray, List.set_cons_zero, List.set_cons_succ]; rfl)), ?_⟩
          refine mx_call ((Below.refl _ _).drew) (by kernel_rfl) ?_ (HR1.out _ (Below.refl _ _).drew) ?_
          · (go_simp; done)
          rintro e w9 ⟨⟨A9, c9, R1, rfl, hR1, hro1⟩, hb9⟩
          have hb9' : Below w8.heap.size w8 w9 := (Below.refl _ _).drew.trans (hb9.mono (Below.refl w8.heap.size w8).drew.size)
          refine ⟨_, rfl, _, (by (simp only [Act.put, List.setIfInBounds_toArray, List.set_cons_zero, List.set_cons_succ]; rfl)), ?_⟩
          refine mx_call (hb9') (by kernel_rfl) ?_ (HR2.out w9 hb9') ?_
          · (go_simp; done)
          rintro e w10 ⟨⟨A10, c10, R2, rfl, hR2, hro2⟩, hb10⟩
          have hb10' : Below w8.heap.size w8 w10 := hb9'.trans (hb10.mono hb9'.size)
          have HRW1 : Hid (RwR w10 A9 R1) := Lib.hid ⟨(hro1.below hb10).rd.mono (fun _ _ _ => trivial), by rw [hR1.out]; exact (rowsT_ok HO1.out HO3.out).1, by rw [hR1.out]; have := (rowsT_ok HO1.out HO3.out).2; omega⟩
          have HRW2 : Hid (RwR w10 A10 R2) := Lib.hid ⟨hro2.rd.mono (fun _ _ _ => trivial), by rw [hR2.out]; exact (rowsT_ok HO2.out HO3.out).1, by rw [hR2.out]; have := (rowsT_ok HO2.out HO3.out).2; omega⟩
          refine ⟨_, rfl, _, (by (simp only [Act.put, List.setIfInBounds_toArray, List.set_cons_zero, List.set_cons_succ]; rfl)), ?_⟩
          refine mx_call (hb10') (by kernel_rfl) ?_ (refChanges_any AE cE E 0 AG A9 c9 R1 A10 c10 R2 w10 (HES.out.below hb10') HAGE.out HRW1.out HRW2.out (by rw [hR1.out, hR2.out]; have h1 := (rowsT_ok HO1.out HO3.out).2; have h2 := (rowsT_ok HO2.out HO3.out).2; exact ⟨by omega, by omega⟩)) ?_
          · (go_simp; done)
          rintro e w11 ⟨⟨A11, c11, L11, rfl, hL11, hro11⟩, hb11o⟩
          have hb11 : Below w8.heap.size w8 w11 := hb10'.trans (hb11o.mono hb10'.size)
          refine ⟨_, rfl, _, (by (simp only [Act.put, List.setIfInBounds_toArray, List.set_cons_zero, List.set_cons_succ]; rfl)), ?_⟩
          refine mx_assign _ (by kernel_rfl) rfl ⟨_, (by ((try simp [go_sem]); (try rfl); done)), _, (by (simp only [Act.put, List.setIfInBounds_toArray, List.set_cons_zero, List.set_cons_succ]; rfl)), ?_⟩
          refine mx_end hb11 ?_
          have HLL : Hid (L11 = chgS AG (rowsT T1 T3) (rowsT T2 T3)) := Lib.hid (by rw [hL11.out, hR1.out, hR2.out])
          have HRO11 := Lib.hid hro11
          have hLL5 : L11.length ≤ 512 := by rw [HLL.out]; exact chgW_len HO1.out HO2.out HO3.out AG
          have HPL : Hid (∀ x ∈ L11, x.p.size ≤ 1048576) := Lib.hid (by rw [HLL.out]; exact chgW_p HO1.out HO2.out HO3.out AG)
          have hs10 : w8.heap.size ≤ w10.heap.size := hb10'.size
          clear hL11 hR1 hR2 hro1 hro2 hro11 HRW1 HRW2 hb9 hb10 hb11o HR1 HR2 HES HBK hb9' hb10'
          go_wp2_with fail
          go_loopw [128] (fun iv wr => ∃ i : Nat, i ≤ L11.length ∧ iv = .int .i64 (i : Int) ∧ RowC wr w10.heap.size A11 c11 (lookI T1 T2 L11 i) ∧ Below w8.heap.size w8 wr) (fun iv _ => L11.length - (intOf iv).toNat)
          case atStart => exact ⟨0, Nat.zero_le _, rfl, HRO11.out, hb11⟩
          case round =>
            clear HRO11 hb11
            obtain ⟨i, hi, rfl, hr, hb⟩ := hrel
            have hlk := lookI_len T1 T2 L11 i
            by_cases hlt : i < L11.length
            · obtain ⟨x, hx⟩ : ∃ x, L11[i]? = some x := ⟨_, List.getElem?_eq_getElem hlt⟩
              have hxk := lookI_get (v := T1) (w := T2) hx
              have hpx := HPL.out x (List.mem_of_getElem? hx)
              have HX := Lib.hid hx
              have HXK := Lib.hid hxk
              obtain ⟨g, off, rfl, hgb, hgl⟩ := hr.addr (by rw [hlk]; omega)
              obtain ⟨a0, a1, a2, a3, a4, a5, a6, a7, a8⟩ := RowC.get hr hxk
              have hba : Below wr.heap.size wr (wr.alloc (.cells #[.string x.p, .int .i64 x.b, .bool x.m, .bool x.t, .int .i64 x.k, .int .i64 x.o, .int .i64 x.s, .int .i64 x.l, .int .i64 x.v] 47)) := (Below.refl _ _).alloc (Nat.le_refl _) _
              have bc : Blk (wr.alloc (.cells #[.string x.p, .int .i64 x.b, .bool x.m, .bool x.t, .int .i64 x.k, .int .i64 x.o, .int .i64 x.s, .int .i64 x.l, .int .i64 x.v] 47)) wr.heap.size 47 x.cells.toArray := Blk.new wr _ _
              have hr2 := Row.below hr hba
              have hb12 := hb.trans (hba.mono hb.size)
              clear hx hxk hlk hr
              go_upto_region 24 with (fail)
              obtain ⟨zc, hzc⟩ : ∃ zc, zc = wr.heap.size := ⟨_, rfl⟩
              have hzg : g < zc := by omega
              rw [← hzc] at bc ⊢
              clear hzc hba a0 a1 a2 a3 a4 a5 a6 a7 a8 hgl hb
              generalize wr.alloc (.cells #[.string x.p, .int .i64 x.b, .bool x.m, .bool x.t, .int .i64 x.k, .int .i64 x.o, .int .i64 x.s, .int .i64 x.l, .int .i64 x.v] 47) = w12 at *
              obtain ⟨q0, q1, q2, q3, q4, q5, q6, q7, q8⟩ := cells9 bc
              by_cases hv4 : x.v = 4
              · rw [hv4] at q8
                have HV4 := Lib.hid hv4
                have hr3 := RowC.putv hr2 HXK.out 5
                obtain ⟨y0, y1, y2, y3, y4, y5, y6, y7, y8⟩ := RowC.get hr2 HXK.out
                have fz := Row.frozen hr2 (off + i * 9 + 8)
                have fr3 : Fr (fun b => b = g) w12 (w12.setCell ⟨g, off + i * 9 + 8, none⟩ (.int .i64 5)) := (Fr.refl (fun b => b = g) w12).setAt g _ rfl _
                have bc3 := bc.fr fr3 (by omega)
                have hb13 := hb12.trans (fr3.below (B := w8.heap.size) hb12.size (fun k hk e => by omega))
                have hlk := lookI_len T1 T2 L11 i
                have hlk2 : ((lookI T1 T2 L11 i).set i (x.setv 5)).length = L11.length := by rw [List.length_set, hlk]
                clear hv4 bc hr2
                go_upto_region 26 with (fail)
                clear fr3 q0 q1 q2 q3 q4 q5 q6 q7 q8 y0 y1 y2 y3 y4 y5 y6 y7 y8 fz hb12
                generalize w12.setCell ⟨g, off + i * 9 + 8, none⟩ (.int .i64 5) = w13 at *
                obtain ⟨q0, q1, q2, q3, q4, q5, q6, q7, q8⟩ := cells9 bc3
                have HG1 := Lib.hid (fun W (hW : Below w13.heap.size w13 W) => refGetO_any B4 d4 M4 x W (HP1.out.its.below (hb13.trans (hW.mono hb13.size))) hpx)
                have HG2 := Lib.hid (fun W (hW : Below w13.heap.size w13 W) => refGetO_any B5 d5 M5 x W (HP2.out.its.below (hb13.trans (hW.mono hb13.size))) hpx)
                rw [HP1.out.same.out] at HG1
                rw [HP2.out.same.out] at HG2
                go_wp2_with fail
                refine wp_region_p [(0, true), (1, true), (2, true), (4, true), (5, true), (6, true), (3, false), (7, false), (8, false)] (fun W => Below w13.heap.size w13 W) (by kernel_rfl) (by kernel_rfl) ?_
                simp only [List.map_cons, List.map_nil, List.filterMap_cons, List.filterMap_nil, List.getElem?_cons_zero, List.getElem?_cons_succ, List.length_cons, List.length_nil, Nat.zero_add, Nat.reduceAdd, List.drop_succ_cons, List.drop_zero]
                refine mx_move _ (by kernel_rfl) rfl ⟨_, (by ((try simp [go_sem]); (try rfl); done)), _, (by (simp only [Act.put, List.setIfInBounds_toArray, List.set_cons_zero, List.set_cons_succ]; rfl)), ?_⟩
                refine mx_val (by kernel_rfl) ⟨_, (by (intro w' hC; clear hC; (try go_simp); (try with_reducible rfl); done)), _, (by (simp only [Act.put, List.setIfInBounds_toArray, List.set_cons_zero, List.set_cons_succ]; rfl)), ?_⟩
                refine mx_val (by kernel_rfl) ⟨_, (by (intro w' hC; (obtain ⟨q0, q1, q2, q3, q4, q5, q6, q7, q8⟩ := cells9 (bc3.below hC)); clear hC; (try go_simp); (try with_reducible rfl); done)), _, (by (simp only [Act.put, List.setIfInBounds_toArray, List.set_cons_zero, List.set_cons_succ]; rfl)), ?_⟩
                refine mx_move _ (by kernel_rfl) rfl ⟨_, (by ((try simp [go_sem]); (try rfl); done)), _, (by (simp only [Act.put, List.setIfInBounds_toArray, List.set_cons_zero, List.set_cons_succ]; rfl)), ?_⟩
                refine mx_val (by kernel_rfl) ⟨_, (by (intro w' hC; clear hC; (try go_simp); (try with_reducible rfl); done)), _, (by (simp only [Act.put, List.setIfInBounds_toArray, List.set_cons_zero, List.set_cons_succ]; rfl)), ?_⟩
                refine mx_val (by kernel_rfl) ⟨_, (by (intro w' hC; (obtain ⟨q0, q1, q2, q3, q4, q5, q6, q7, q8⟩ := cells9 (bc3.below hC)); clear hC; (try go_simp); (try with_reducible rfl); done)), _, (by (simp only [Act.put, List.setIfInBounds_toArray, List.set_cons_zero, List.set_cons_succ]; rfl)), ?_⟩
                refine mx_call ((Below.refl _ _).drew) (by kernel_rfl) ?_ (HG1.out _ (Below.refl _ _).drew) ?_
                · (go_simp; done)
                rintro e w14 ⟨A14, c14, l14, rfl, hl14, hok14, _, hb14⟩
                have hb14' : Below w13.heap.size w13 w14 := (Below.refl _ _).drew.trans (hb14.mono (Below.refl w13.heap.size w13).drew.size)
                refine ⟨_, rfl, _, (by (simp only [Act.put, List.setIfInBounds_toArray, List.set_cons_zero, List.set_cons_succ]; rfl)), ?_⟩
                refine mx_call (hb14') (by kernel_rfl) ?_ (HG2.out w14 hb14') ?_
                · (go_simp; done)
                rintro e w15 ⟨A15, c15, l15, rfl, hl15, hok15, _, hb15⟩
                have hb15' : Below w13.heap.size w13 w15 := hb14'.trans (hb15.mono hb14'.size)
                have hok14' := hok14.below hb15
                refine ⟨_, rfl, _, (by (simp only [Act.put, List.setIfInBounds_toArray, List.set_cons_zero, List.set_cons_succ]; rfl)), ?_⟩
                refine mx_call (hb15') (by kernel_rfl) ?_ (leafSameR_any (getL T1 (pL x)).1 (getL T2 (pL x)).1 A14 A15 c14 c15 l14 l15 _ _ w15 hok14'.1 hok15.1) ?_
                · (go_simp; done)
                rintro e w16 ⟨rfl, hb16⟩
                have hb16' : Below w13.heap.size w13 w16 := hb15'.trans (hb16.mono hb15'.size)
                obtain ⟨SB, hSB⟩ : ∃ SB, SB = ((getL T1 (pL x)).1 == (getL T2 (pL x)).1 && l14 == l15) := ⟨_, rfl⟩
                rw [← hSB]
                refine ⟨_, rfl, _, (by (simp only [Act.put, List.setIfInBounds_toArray, List.set_cons_zero, List.set_cons_succ]; rfl)), ?_⟩
                refine mx_end hb16' ?_
                have hr16 := Row.below hr3 hb16'
                have hbw := hb13.trans (hb16'.mono hb13.size)
                have HSB : Hid (SB = decide (getL T1 (pL x) = getL T2 (pL x))) := Lib.hid (by
                  rw [hSB, hl14.out, hl15.out]
                  generalize getL T1 (pL x) = a at *
                  generalize getL T2 (pL x) = b at *
                  obtain ⟨a1, a2⟩ := a
                  obtain ⟨b1, b2⟩ := b
                  rw [Bool.eq_iff_iff]
                  simp)
                clear hSB hl14 hl15 hr3 hb13 hb14 hb15 hb16 hb14' hb15' hb16' HG1 HG2 bc3 q0 q1 q2 q3 q4 q5 q6 q7 q8
                rcases SB with _ | _
                · have hne : getL T1 (pL x) ≠ getL T2 (pL x) := by have := HSB.out; simpa using this.symm
                  have HNX : Hid (lookI T1 T2 L11 (i + 1) = (lookI T1 T2 L11 i).set i (x.setv 5)) := Lib.hid (lookI_step HX.out (lookV_ne HV4.out hne))
                  have HR16 := Lib.hid hr16
                  clear hr16 hne
                  go_wp2_with fail
                  go_roundw
                  case rel => exact ⟨i + 1, hlt, by go_num, by rw [HNX.out]; exact HR16.out, hbw⟩
                  case measure => simp [intOf]; omega
                · have heq : getL T1 (pL x) = getL T2 (pL x) := by have := HSB.out; simpa using this.symm
                  have hx5 : ((lookI T1 T2 L11 i).set i (x.setv 5))[i]? = some (x.setv 5) := by
                    rw [List.getElem?_set, if_pos rfl, if_pos (by rw [hlk]; exact hlt)]
                  have hr17 := RowC.putv hr16 hx5 3
                  have HNX : Hid (lookI T1 T2 L11 (i + 1) = ((lookI T1 T2 L11 i).set i (x.setv 5)).set i ((x.setv 5).setv 3)) := Lib.hid (by
                    rw [lookI_step HX.out (lookV_eq HV4.out heq), List.set_set]; rfl)
                  obtain ⟨y0, y1, y2, y3, y4, y5, y6, y7, y8⟩ := RowC.get hr16 hx5
                  have fz := Row.frozen hr16 (off + i * 9 + 8)
                  have fr17 : Fr (fun b => b = g) w16 (w16.setCell ⟨g, off + i * 9 + 8, none⟩ (.int .i64 3)) := (Fr.refl (fun b => b = g) w16).setAt g _ rfl _
                  have hb17 := hbw.trans (fr17.below (B := w8.heap.size) hbw.size (fun k hk e => by omega))
                  have HR17 := Lib.hid hr17
                  clear hr16 hr17 heq hx5 fr17 hbw
                  go_wp2_with fail
                  go_roundw
                  case rel => exact ⟨i + 1, hlt, by go_num, by rw [HNX.out]; exact HR17.out, hb17⟩
                  case measure => simp [intOf]; omega
              · have hvb : (x.v == 4) = false := by simpa using hv4
                have HNX : Hid (lookI T1 T2 L11 (i + 1) = lookI T1 T2 L11 i) := Lib.hid (by
                  rw [lookI_step HX.out (lookV_no hv4)]
                  obtain ⟨hl, he⟩ := List.getElem?_eq_some_iff.1 HXK.out
                  rw [← he, List.set_getElem_self])
                have HR2 := Lib.hid hr2
                clear hr2
                go_wp2_with fail
                go_roundw
                case rel => exact ⟨i + 1, hlt, by go_num, by rw [HNX.out]; exact HR2.out, hb12⟩
                case measure => simp [intOf]; omega
            · have e : i = L11.length := by omega
              have hLW : L11.map (lookV T1 T2) = worksS T1 T2 T3 AG := by rw [HLL.out]; rfl
              obtain ⟨LW, hLWd⟩ : ∃ LW, LW = worksS T1 T2 T3 AG := ⟨_, rfl⟩
              have HLWD := Lib.hid hLWd
              rw [e, lookI_all, hLW, ← hLWd] at hr
              have hLWl : L11.length = LW.length := by rw [hLWd, ← hLW, List.length_map]
              have HPW : Hid (∀ x ∈ LW, x.p.size ≤ 1048576) := Lib.hid (fun x hx => by
                rw [hLWd, ← hLW] at hx
                obtain ⟨y, hy, rfl⟩ := List.mem_map.1 hx
                have h1 := HPL.out y hy
                have h2 : (lookV T1 T2 y).p = y.p := by unfold lookV; split <;> rfl
                rw [h2]; exact h1)
              have HCL := Lib.hid (closeR_row A11 c11 LW _ wr ⟨hr.rd, fun o ho => by have := HPW.out o ho; omega, by omega⟩ (by omega))
              rw [← hLWl] at HCL
              have HLWL := Lib.hid hLWl
              have hw17 := hw8.trans (hb.mono hw8.size)
              rename World => w17
              replace HP1 := Lib.hid (HP1.out.below hb)
              replace HP2 := Lib.hid (HP2.out.below hb)
              clear hLW hLWd hLWl hr e hlk hb HPL HLL HP3
              go_wp2_with fail
              refine HCL.out.mono ?_
              rintro e w18 ⟨A18, c18, X, rfl, hX, hrX, hb18⟩
              have hw18 := hw17.trans (hb18.mono hw17.size)
              replace HP1 := Lib.hid (HP1.out.below hb18)
              replace HP2 := Lib.hid (HP2.out.below hb18)
              have HWL : Hid (WorksL T1 T2 X) := Lib.hid (works_glue HO1.out HO2.out HO3.out HKP.out (by rw [← HLWD.out]; exact hX))
              have hXl : X.length = LW.length := (hX.1.le.1).symm
              have hXl5 : X.length ≤ 512 := by have := HLWL.out; omega
              have HPX : Hid (∀ x ∈ X, x.p.size ≤ 1048576) := Lib.hid (fun x hx => by
                have h1 := hX.1.paths
                have h2 : x.p ∈ LW.map CV.p := by rw [← h1]; exact List.mem_map.2 ⟨x, hx, rfl⟩
                obtain ⟨y, hy, e⟩ := List.mem_map.1 h2
                rw [← e]; exact HPW.out y hy)
              have HRX := Lib.hid hrX
              have HPN := Lib.hid (orderPlan_any 1000 sortsW (by decide) A18 c18 X _ w18 hrX.rd (fun x hx => by have := HPX.out x hx; omega) (by omega))
              clear hX hrX hb18 HPW HLWD HKP HCL hXl HLWL hLL5 HAGE HAG HZB
              go_wp2_with fail
              refine HPN.out.mono ?_
              rintro e w19 ⟨A19, c19, rfl, hr19, hb19⟩
              have hw19 := hw18.trans (hb19.mono hw18.size)
              replace HP1 := Lib.hid (HP1.out.below hb19)
              replace HP2 := Lib.hid (HP2.out.below hb19)
              have hpll := planS_len1 X
              have HAP := Lib.hid (orderApply_any tb4 mo4 La4 tb5 mo5 La5 A19 c19 (planS X) _ w19 HP1.out.tree HP2.out.tree hr19.rd (fun x hx => HPX.out x (plan_mem hx)) (by omega))
              rw [HP1.out.plain.out, HP2.out.plain.out] at HAP
              have HWA := Lib.hid (works_all HWL.out HO1.out HD1.out HO2.out HD2.out (planS X) [] T1 T2 rfl (Mid.start HO1.out HO2.out))
              replace HRX := Lib.hid (Row.below HRX.out hb19)
              clear hr19 hb19 HPN
              generalize hPS : planS X = PX at *
              have HPS := Lib.hid hPS
              clear hPS
              go_wp2_with fail
              refine HAP.out.mono ?_
              rintro e w20 ⟨R, hR, hb20, hcase⟩
              have hw20 := hw19.trans (hb20.mono hw19.size)
              replace HP1 := Lib.hid (HP1.out.below hb20)
              replace HP2 := Lib.hid (HP2.out.below hb20)
              replace HRX := Lib.hid (Row.below HRX.out hb20)
              rw [← hR.out] at HWA
              rcases hcase with ⟨h0, ca, mca, Ka, cb, mcb, Kb, rfl, hKa, hKb, hka, hkb⟩ | ⟨h0, rfl⟩
              · have HM : Hid (Mid T1 T2 PX R.1 R.2.1) := Lib.hid (HWA.out.2 h0)
                have HKA := Lib.hid hKa
                have HKB := Lib.hid hKb
                clear hKa hKb HAP HWA hR hb20 h0
                go_wp2_with fail
                go_loopw [182] (fun iv wr => ∃ i : Nat, i ≤ X.length ∧ iv = .int .i64 (i : Int) ∧ Below w20.heap.size w20 wr) (fun iv _ => X.length - (intOf iv).toNat)
                case atStart => exact ⟨0, Nat.zero_le _, rfl, Below.refl _ _⟩
                case round =>
                  obtain ⟨i, hi, rfl, hb⟩ := hrel
                  by_cases hlt : i < X.length
                  · obtain ⟨b, off, rfl, _, hbb, at1⟩ := ch_at (HRX.out.rd.below hb) hlt
                    obtain ⟨x, hx⟩ : ∃ x, x = X[i] := ⟨_, rfl⟩
                    have hxm : x ∈ X := by rw [hx]; exact List.getElem_mem hlt
                    rw [← hx] at at1
                    have hpx := HPX.out x hxm
                    have HEND := Lib.hid (works_end HWL.out (by rw [HPS.out]; exact HM.out) hxm)
                    obtain ⟨a0, a1, a2, a3, a4, a5, a6, a7, a8⟩ := at1
                    have hba : Below wr.heap.size wr (wr.alloc (.cells #[.string x.p, .int .i64 x.b, .bool x.m, .bool x.t, .int .i64 x.k, .int .i64 x.o, .int .i64 x.s, .int .i64 x.l, .int .i64 x.v] 47)) := (Below.refl _ _).alloc (Nat.le_refl _) _
                    have bc : Blk (wr.alloc (.cells #[.string x.p, .int .i64 x.b, .bool x.m, .bool x.t, .int .i64 x.k, .int .i64 x.o, .int .i64 x.s, .int .i64 x.l, .int .i64 x.v] 47)) wr.heap.size 47 x.cells.toArray := Blk.new wr _ _
                    have hb23 := hb.trans (hba.mono hb.size)
                    clear hx hxm
                    go_upto_region 36 with (fail)
                    obtain ⟨zc, hzc⟩ : ∃ zc, zc = wr.heap.size := ⟨_, rfl⟩
                    rw [← hzc] at bc ⊢
                    clear hzc hba a0 a1 a2 a3 a4 a5 a6 a7 a8 hbb hb
                    generalize wr.alloc (.cells #[.string x.p, .int .i64 x.b, .bool x.m, .bool x.t, .int .i64 x.k, .int .i64 x.o, .int .i64 x.s, .int .i64 x.l, .int .i64 x.v] 47) = w23 at *
                    have hzc := bc.lt
                    have HBC := Lib.hid bc
                    have HG1 := Lib.hid (fun W (hW : Below w23.heap.size w23 W) => getO_any ca mca Ka x W (HKA.out.below (hb23.trans (hW.mono hb23.size))) hpx)
                    have HG2 := Lib.hid (fun W (hW : Below w23.heap.size w23 W) => getO_any cb mcb Kb x W (HKB.out.below (hb23.trans (hW.mono hb23.size))) hpx)
                    rw [hka.out] at HG1
                    rw [hkb.out] at HG2
                    go_wp2_with fail
                    refine wp_region_plan (.tell 0 (.tell 1 (.tell 2 (.tell 4 (.tell 5 (.tell 6 (.three 3 (.three 7 (.two 8 (.one 9 .done) 9 (.one 8 .done)) 8 (.two 7 (.one 9 .done) 9 (.one 7 .done)) 9 (.two 7 (.one 8 .done) 8 (.one 7 .done))) 8 (.two 3 (.two 7 (.one 9 .done) 9 (.one 7 .done)) 9 (.one 3 (.one 7 .done))) 9 (.two 3 (.two 7 (.one 8 .done) 8 (.one 7 .done)) 8 (.one 3 (.one 7 .done)))))))))) (fun W => Below w23.heap.size w23 W) _ (by kernel_rfl) (by kernel_rfl) ?_ (fun _ _ h => h)
                    refine pl_val (by (simp only [List.getElem?_toArray, List.getElem?_cons_succ, List.getElem?_cons_zero]; rfl)) (by kernel_rfl) ⟨_, (by (intro w' hC; clear hC; (try go_simp); (try with_reducible rfl); done)), _, (by (simp only [Act.put, List.setIfInBounds_toArray, List.set_cons_zero, List.set_cons_succ]; rfl)), ?_⟩
                    refine pl_val (by (simp only [List.getElem?_toArray, List.getElem?_cons_succ, List.getElem?_cons_zero]; rfl)) (by kernel_rfl) ⟨_, (by (intro w' hC; clear hC; (try go_simp); (try with_reducible rfl); done)), _, (by (simp only [Act.put, List.setIfInBounds_toArray, List.set_cons_zero, List.set_cons_succ]; rfl)), ?_⟩
                    refine pl_val (by (simp only [List.getElem?_toArray, List.getElem?_cons_succ, List.getElem?_cons_zero]; rfl)) (by kernel_rfl) ⟨_, (by (intro w' hC; (obtain ⟨q0, q1, q2, q3, q4, q5, q6, q7, q8⟩ := cells9 (HBC.out.below hC)); clear hC; (try go_simp); (try with_reducible rfl); done)), _, (by (simp only [Act.put, List.setIfInBounds_toArray, List.set_cons_zero, List.set_cons_succ]; rfl)), ?_⟩
                    refine pl_val (by (simp only [List.getElem?_toArray, List.getElem?_cons_succ, List.getElem?_cons_zero]; rfl)) (by kernel_rfl) ⟨_, (by (intro w' hC; clear hC; (try go_simp); (try with_reducible rfl); done)), _, (by (simp only [Act.put, List.setIfInBounds_toArray, List.set_cons_zero, List.set_cons_succ]; rfl)), ?_⟩
                    refine pl_val (by (simp only [List.getElem?_toArray, List.getElem?_cons_succ, List.getElem?_cons_zero]; rfl)) (by kernel_rfl) ⟨_, (by (intro w' hC; clear hC; (try go_simp); (try with_reducible rfl); done)), _, (by (simp only [Act.put, List.setIfInBounds_toArray, List.set_cons_zero, List.set_cons_succ]; rfl)), ?_⟩
                    refine pl_val (by (simp only [List.getElem?_toArray, List.getElem?_cons_succ, List.getElem?_cons_zero]; rfl)) (by kernel_rfl) ⟨_, (by (intro w' hC; (obtain ⟨q0, q1, q2, q3, q4, q5, q6, q7, q8⟩ := cells9 (HBC.out.below hC)); clear hC; (try go_simp); (try with_reducible rfl); done)), _, (by (simp only [Act.put, List.setIfInBounds_toArray, List.set_cons_zero, List.set_cons_succ]; rfl)), ?_⟩
                    have hW : Below w23.heap.size w23 w23.drew := (Below.refl _ _).drew
                    clear bc
                    generalize w23.drew = wD at *
                    refine pl_meet4 (d1 := some 189) (d2 := some 193) (d3 := some 29) (d4 := some 30) (GotJ w23 (getL R.1 (pL x)) (getL R.2.1 (pL x))) (fun v1 v2 v3 v4 => (by (simp only [Act.put, List.setIfInBounds_toArray, List.set_cons_zero, List.set_cons_succ]; rfl))) ?_ ?_
                    refine pl_three (by (simp only [List.getElem?_toArray, List.getElem?_cons_succ, List.getElem?_cons_zero]; rfl)) (by (simp only [List.getElem?_toArray, List.getElem?_cons_succ, List.getElem?_cons_zero]; rfl)) (by (simp only [List.getElem?_toArray, List.getElem?_cons_succ, List.getElem?_cons_zero]; rfl)) hW ?_ ?_ ?_
                    · refine al_call (by kernel_rfl) ?_ (HG1.out _ hW) ?_
                      · (go_simp; done)
                      rintro e wd3 ⟨A30, c30, l30, rfl, hl30, ho30, hbN⟩
                      have ho30x : OwB wd3 0 (.slice A30 l30.length c30) l30 := own_base (base' := 0) ho30 (fun _ _ => Nat.zero_le _)
                      clear ho30
                      have ho30 := ho30x
                      clear ho30x
                      replace hW := hW.trans (hbN.mono hW.size)
                      clear hbN
                      refine ⟨_, rfl, _, (by (simp only [Act.put, List.setIfInBounds_toArray, List.set_cons_zero, List.set_cons_succ]; rfl)), ?_⟩
                      refine pl_three (by (simp only [List.getElem?_toArray, List.getElem?_cons_succ, List.getElem?_cons_zero]; rfl)) (by (simp only [List.getElem?_toArray, List.getElem?_cons_succ, List.getElem?_cons_zero]; rfl)) (by (simp only [List.getElem?_toArray, List.getElem?_cons_succ, List.getElem?_cons_zero]; rfl)) hW ?_ ?_ ?_
                      · refine al_call (by kernel_rfl) ?_ (HG2.out _ hW) ?_
                        · (go_simp; done)
                        rintro e wd37 ⟨A31, c31, l31, rfl, hl31, ho31, hbN⟩
                        have ho31x : OwB wd37 0 (.slice A31 l31.length c31) l31 := own_base (base' := 0) ho31 (fun _ _ => Nat.zero_le _)
                        clear ho31
                        have ho31 := ho31x
                        clear ho31x
                        replace hW := hW.trans (hbN.mono hW.size)
                        replace ho30 := ho30.below hbN
                        clear hbN
                        refine ⟨_, rfl, _, (by (simp only [Act.put, List.setIfInBounds_toArray, List.set_cons_zero, List.set_cons_succ]; rfl)), ?_⟩
                        refine pl_two (by (simp only [List.getElem?_toArray, List.getElem?_cons_succ, List.getElem?_cons_zero]; rfl)) (by (simp only [List.getElem?_toArray, List.getElem?_cons_succ, List.getElem?_cons_zero]; rfl)) hW ?_ ?_
                        · refine al_val (by kernel_rfl) ⟨_, _, (by (go_simp; first | done | exact ⟨rfl, rfl⟩)), _, (by (simp only [Act.put, List.setIfInBounds_toArray, List.set_cons_zero, List.set_cons_succ]; rfl)), ?_⟩
                          obtain ⟨zp, hze⟩ : ∃ z, z = wd37.heap.size := ⟨_, rfl⟩
                          have baN : Below wd37.heap.size wd37 (wd37.alloc (.cells #[.int .i64 0, .slice none 0 0] 35)) := (Below.refl _ _).alloc (Nat.le_refl _) _
                          have bp : Blk (wd37.alloc (.cells #[.int .i64 0, .slice none 0 0] 35)) (wd37.heap.size) 35 #[.int .i64 0, .slice none 0 0] := Blk.new wd37 35 #[.int .i64 0, .slice none 0 0]
                          have hzp : w23.heap.size ≤ zp := by rw [hze]; exact hW.size
                          replace hW := hW.trans (baN.mono hW.size)
                          replace ho30 := ho30.below baN
                          replace ho31 := ho31.below baN
                          rw [← hze] at bp ⊢
                          clear hze baN
                          generalize wd37.alloc (.cells #[.int .i64 0, .slice none 0 0] 35) = wd378 at *
                          refine pl_one (by (simp only [List.getElem?_toArray, List.getElem?_cons_succ, List.getElem?_cons_zero]; rfl)) hW ?_
                          · refine al_val (by kernel_rfl) ⟨_, _, (by (go_simp; first | done | exact ⟨rfl, rfl⟩)), _, (by (simp only [Act.put, List.setIfInBounds_toArray, List.set_cons_zero, List.set_cons_succ]; rfl)), ?_⟩
                            obtain ⟨zq, hze⟩ : ∃ z, z = wd378.heap.size := ⟨_, rfl⟩
                            have baN : Below wd378.heap.size wd378 (wd378.alloc (.cells #[.int .i64 0, .slice none 0 0] 35)) := (Below.refl _ _).alloc (Nat.le_refl _) _
                            have bq : Blk (wd378.alloc (.cells #[.int .i64 0, .slice none 0 0] 35)) (wd378.heap.size) 35 #[.int .i64 0, .slice none 0 0] := Blk.new wd378 35 #[.int .i64 0, .slice none 0 0]
                            have hzq : w23.heap.size ≤ zq := by rw [hze]; exact hW.size
                            have hpq : zp ≠ zq := by have := bp.lt; omega
                            replace hW := hW.trans (baN.mono hW.size)
                            replace ho30 := ho30.below baN
                            replace ho31 := ho31.below baN
                            replace bp := bp.below baN
                            rw [← hze] at bq ⊢
                            clear hze baN
                            generalize wd378.alloc (.cells #[.int .i64 0, .slice none 0 0] 35) = wd3789 at *
                            refine pl_end hW ⟨.agg #[.int .i64 (getL R.1 (pL x)).1, .slice A30 l30.length c30], .agg #[.int .i64 (getL R.2.1 (pL x)).1, .slice A31 l31.length c31], .pointer (some ⟨zp, 0, none⟩), .pointer (some ⟨zq, 0, none⟩), rfl, ⟨A30, c30, l30, A31, c31, l31, zp, zq, rfl, rfl, rfl, rfl, hl30, hl31, ho30, ho31, bp, bq, hpq, hzp, hzq, hW⟩⟩
                        · refine al_val (by kernel_rfl) ⟨_, _, (by (go_simp; first | done | exact ⟨rfl, rfl⟩)), _, (by (simp only [Act.put, List.setIfInBounds_toArray, List.set_cons_zero, List.set_cons_succ]; rfl)), ?_⟩
                          obtain ⟨zq, hze⟩ : ∃ z, z = wd37.heap.size := ⟨_, rfl⟩
                          have baN : Below wd37.heap.size wd37 (wd37.alloc (.cells #[.int .i64 0, .slice none 0 0] 35)) := (Below.refl _ _).alloc (Nat.le_refl _) _
                          have bq : Blk (wd37.alloc (.cells #[.int .i64 0, .slice none 0 0] 35)) (wd37.heap.size) 35 #[.int .i64 0, .slice none 0 0] := Blk.new wd37 35 #[.int .i64 0, .slice none 0 0]
                          have hzq : w23.heap.size ≤ zq := by rw [hze]; exact hW.size
                          replace hW := hW.trans (baN.mono hW.size)
                          replace ho30 := ho30.below baN
                          replace ho31 := ho31.below baN
                          rw [← hze] at bq ⊢
                          clear hze baN
                          generalize wd37.alloc (.cells #[.int .i64 0, .slice none 0 0] 35) = wd379 at *
                          refine pl_one (by (simp only [List.getElem?_toArray, List.getElem?_cons_succ, List.getElem?_cons_zero]; rfl)) hW ?_
                          · refine al_val (by kernel_rfl) ⟨_, _, (by (go_simp; first | done | exact ⟨rfl, rfl⟩)), _, (by (simp only [Act.put, List.setIfInBounds_toArray, List.set_cons_zero, List.set_cons_succ]; rfl)), ?_⟩
                            obtain ⟨zp, hze⟩ : ∃ z, z = wd379.heap.size := ⟨_, rfl⟩
                            have baN : Below wd379.heap.size wd379 (wd379.alloc (.cells #[.int .i64 0, .slice none 0 0] 35)) := (Below.refl _ _).alloc (Nat.le_refl _) _
                            have bp : Blk (wd379.alloc (.cells #[.int .i64 0, .slice none 0 0] 35)) (wd379.heap.size) 35 #[.int .i64 0, .slice none 0 0] := Blk.new wd379 35 #[.int .i64 0, .slice none 0 0]
                            have hzp : w23.heap.size ≤ zp := by rw [hze]; exact hW.size
                            have hpq : zp ≠ zq := by have := bq.lt; omega
                            replace hW := hW.trans (baN.mono hW.size)
                            replace ho30 := ho30.below baN
                            replace ho31 := ho31.below baN
                            replace bq := bq.below baN
                            rw [← hze] at bp ⊢
                            clear hze baN
                            generalize wd379.alloc (.cells #[.int .i64 0, .slice none 0 0] 35) = wd3798 at *
                            refine pl_end hW ⟨.agg #[.int .i64 (getL R.1 (pL x)).1, .slice A30 l30.length c30], .agg #[.int .i64 (getL R.2.1 (pL x)).1, .slice A31 l31.length c31], .pointer (some ⟨zp, 0, none⟩), .pointer (some ⟨zq, 0, none⟩), rfl, ⟨A30, c30, l30, A31, c31, l31, zp, zq, rfl, rfl, rfl, rfl, hl30, hl31, ho30, ho31, bp, bq, hpq, hzp, hzq, hW⟩⟩
                      · refine al_val (by kernel_rfl) ⟨_, _, (by (go_simp; first | done | exact ⟨rfl, rfl⟩)), _, (by (simp only [Act.put, List.setIfInBounds_toArray, List.set_cons_zero, List.set_cons_succ]; rfl)), ?_⟩
                        obtain ⟨zp, hze⟩ : ∃ z, z = wd3.heap.size := ⟨_, rfl⟩
                        have baN : Below wd3.heap.size wd3 (wd3.alloc (.cells #[.int .i64 0, .slice none 0 0] 35)) := (Below.refl _ _).alloc (Nat.le_refl _) _
                        have bp : Blk (wd3.alloc (.cells #[.int .i64 0, .slice none 0 0] 35)) (wd3.heap.size) 35 #[.int .i64 0, .slice none 0 0] := Blk.new wd3 35 #[.int .i64 0, .slice none 0 0]
                        have hzp : w23.heap.size ≤ zp := by rw [hze]; exact hW.size
                        replace hW := hW.trans (baN.mono hW.size)
                        replace ho30 := ho30.below baN
                        rw [← hze] at bp ⊢
                        clear hze baN
                        generalize wd3.alloc (.cells #[.int .i64 0, .slice none 0 0] 35) = wd38 at *
                        refine pl_two (by (simp only [List.getElem?_toArray, List.getElem?_cons_succ, List.getElem?_cons_zero]; rfl)) (by (simp only [List.getElem?_toArray, List.getElem?_cons_succ, List.getElem?_cons_zero]; rfl)) hW ?_ ?_
                        · refine al_call (by kernel_rfl) ?_ (HG2.out _ hW) ?_
                          · (go_simp; done)
                          rintro e wd387 ⟨A31, c31, l31, rfl, hl31, ho31, hbN⟩
                          have ho31x : OwB wd387 0 (.slice A31 l31.length c31) l31 := own_base (base' := 0) ho31 (fun _ _ => Nat.zero_le _)
                          clear ho31
                          have ho31 := ho31x
                          clear ho31x
                          replace hW := hW.trans (hbN.mono hW.size)
                          replace ho30 := ho30.below hbN
                          replace bp := bp.below hbN
                          clear hbN
                          refine ⟨_, rfl, _, (by (simp only [Act.put, List.setIfInBounds_toArray, List.set_cons_zero, List.set_cons_succ]; rfl)), ?_⟩
                          refine pl_one (by (simp only [List.getElem?_toArray, List.getElem?_cons_succ, List.getElem?_cons_zero]; rfl)) hW ?_
                          · refine al_val (by kernel_rfl) ⟨_, _, (by (go_simp; first | done | exact ⟨rfl, rfl⟩)), _, (by (simp only [Act.put, List.setIfInBounds_toArray, List.set_cons_zero, List.set_cons_succ]; rfl)), ?_⟩
                            obtain ⟨zq, hze⟩ : ∃ z, z = wd387.heap.size := ⟨_, rfl⟩
                            have baN : Below wd387.heap.size wd387 (wd387.alloc (.cells #[.int .i64 0, .slice none 0 0] 35)) := (Below.refl _ _).alloc (Nat.le_refl _) _
                            have bq : Blk (wd387.alloc (.cells #[.int .i64 0, .slice none 0 0] 35)) (wd387.heap.size) 35 #[.int .i64 0, .slice none 0 0] := Blk.new wd387 35 #[.int .i64 0, .slice none 0 0]
                            have hzq : w23.heap.size ≤ zq := by rw [hze]; exact hW.size
                            have hpq : zp ≠ zq := by have := bp.lt; omega
                            replace hW := hW.trans (baN.mono hW.size)
                            replace ho30 := ho30.below baN
                            replace ho31 := ho31.below baN
                            replace bp := bp.below baN
                            rw [← hze] at bq ⊢
                            clear hze baN
                            generalize wd387.alloc (.cells #[.int .i64 0, .slice none 0 0] 35) = wd3879 at *
                            refine pl_end hW ⟨.agg #[.int .i64 (getL R.1 (pL x)).1, .slice A30 l30.length c30], .agg #[.int .i64 (getL R.2.1 (pL x)).1, .slice A31 l31.length c31], .pointer (some ⟨zp, 0, none⟩), .pointer (some ⟨zq, 0, none⟩), rfl, ⟨A30, c30, l30, A31, c31, l31, zp, zq, rfl, rfl, rfl, rfl, hl30, hl31, ho30, ho31, bp, bq, hpq, hzp, hzq, hW⟩⟩
                        · refine al_val (by kernel_rfl) ⟨_, _, (by (go_simp; first | done | exact ⟨rfl, rfl⟩)), _, (by (simp only [Act.put, List.setIfInBounds_toArray, List.set_cons_zero, List.set_cons_succ]; rfl)), ?_⟩
                          obtain ⟨zq, hze⟩ : ∃ z, z = wd38.heap.size := ⟨_, rfl⟩
                          have baN : Below wd38.heap.size wd38 (wd38.alloc (.cells #[.int .i64 0, .slice none 0 0] 35)) := (Below.refl _ _).alloc (Nat.le_refl _) _
                          have bq : Blk (wd38.alloc (.cells #[.int .i64 0, .slice none 0 0] 35)) (wd38.heap.size) 35 #[.int .i64 0, .slice none 0 0] := Blk.new wd38 35 #[.int .i64 0, .slice none 0 0]
                          have hzq : w23.heap.size ≤ zq := by rw [hze]; exact hW.size
                          have hpq : zp ≠ zq := by have := bp.lt; omega
                          replace hW := hW.trans (baN.mono hW.size)
                          replace ho30 := ho30.below baN
                          replace bp := bp.below baN
                          rw [← hze] at bq ⊢
                          clear hze baN
                          generalize wd38.alloc (.cells #[.int .i64 0, .slice none 0 0] 35) = wd389 at *
                          refine pl_one (by (simp only [List.getElem?_toArray, List.getElem?_cons_succ, List.getElem?_cons_zero]; rfl)) hW ?_
                          · refine al_call (by kernel_rfl) ?_ (HG2.out _ hW) ?_
                            · (go_simp; done)
                            rintro e wd3897 ⟨A31, c31, l31, rfl, hl31, ho31, hbN⟩
                            have ho31x : OwB wd3897 0 (.slice A31 l31.length c31) l31 := own_base (base' := 0) ho31 (fun _ _ => Nat.zero_le _)
                            clear ho31
                            have ho31 := ho31x
                            clear ho31x
                            replace hW := hW.trans (hbN.mono hW.size)
                            replace ho30 := ho30.below hbN
                            replace bp := bp.below hbN
                            replace bq := bq.below hbN
                            clear hbN
                            refine ⟨_, rfl, _, (by (simp only [Act.put, List.setIfInBounds_toArray, List.set_cons_zero, List.set_cons_succ]; rfl)), ?_⟩
                            refine pl_end hW ⟨.agg #[.int .i64 (getL R.1 (pL x)).1, .slice A30 l30.length c30], .agg #[.int .i64 (getL R.2.1 (pL x)).1, .slice A31 l31.length c31], .pointer (some ⟨zp, 0, none⟩), .pointer (some ⟨zq, 0, none⟩), rfl, ⟨A30, c30, l30, A31, c31, l31, zp, zq, rfl, rfl, rfl, rfl, hl30, hl31, ho30, ho31, bp, bq, hpq, hzp, hzq, hW⟩⟩
                      · refine al_val (by kernel_rfl) ⟨_, _, (by (go_simp; first | done | exact ⟨rfl, rfl⟩)), _, (by (simp only [Act.put, List.setIfInBounds_toArray, List.set_cons_zero, List.set_cons_succ]; rfl)), ?_⟩
                        obtain ⟨zq, hze⟩ : ∃ z, z = wd3.heap.size := ⟨_, rfl⟩
                        have baN : Below wd3.heap.size wd3 (wd3.alloc (.cells #[.int .i64 0, .slice none 0 0] 35)) := (Below.refl _ _).alloc (Nat.le_refl _) _
                        have bq : Blk (wd3.alloc (.cells #[.int .i64 0, .slice none 0 0] 35)) (wd3.heap.size) 35 #[.int .i64 0, .slice none 0 0] := Blk.new wd3 35 #[.int .i64 0, .slice none 0 0]
                        have hzq : w23.heap.size ≤ zq := by rw [hze]; exact hW.size
                        replace hW := hW.trans (baN.mono hW.size)
                        replace ho30 := ho30.below baN
                        rw [← hze] at bq ⊢
                        clear hze baN
                        generalize wd3.alloc (.cells #[.int .i64 0, .slice none 0 0] 35) = wd39 at *
                        refine pl_two (by (simp only [List.getElem?_toArray, List.getElem?_cons_succ, List.getElem?_cons_zero]; rfl)) (by (simp only [List.getElem?_toArray, List.getElem?_cons_succ, List.getElem?_cons_zero]; rfl)) hW ?_ ?_
                        · refine al_call (by kernel_rfl) ?_ (HG2.out _ hW) ?_
                          · (go_simp; done)
                          rintro e wd397 ⟨A31, c31, l31, rfl, hl31, ho31, hbN⟩
                          have ho31x : OwB wd397 0 (.slice A31 l31.length c31) l31 := own_base (base' := 0) ho31 (fun _ _ => Nat.zero_le _)
                          clear ho31
                          have ho31 := ho31x
                          clear ho31x
                          replace hW := hW.trans (hbN.mono hW.size)
                          replace ho30 := ho30.below hbN
                          replace bq := bq.below hbN
                          clear hbN
                          refine ⟨_, rfl, _, (by (simp only [Act.put, List.setIfInBounds_toArray, List.set_cons_zero, List.set_cons_succ]; rfl)), ?_⟩
                          refine pl_one (by (simp only [List.getElem?_toArray, List.getElem?_cons_succ, List.getElem?_cons_zero]; rfl)) hW ?_
                          · refine al_val (by kernel_rfl) ⟨_, _, (by (go_simp; first | done | exact ⟨rfl, rfl⟩)), _, (by (simp only [Act.put, List.setIfInBounds_toArray, List.set_cons_zero, List.set_cons_succ]; rfl)), ?_⟩
                            obtain ⟨zp, hze⟩ : ∃ z, z = wd397.heap.size := ⟨_, rfl⟩
                            have baN : Below wd397.heap.size wd397 (wd397.alloc (.cells #[.int .i64 0, .slice none 0 0] 35)) := (Below.refl _ _).alloc (Nat.le_refl _) _
                            have bp : Blk (wd397.alloc (.cells #[.int .i64 0, .slice none 0 0] 35)) (wd397.heap.size) 35 #[.int .i64 0, .slice none 0 0] := Blk.new wd397 35 #[.int .i64 0, .slice none 0 0]
                            have hzp : w23.heap.size ≤ zp := by rw [hze]; exact hW.size
                            have hpq : zp ≠ zq := by have := bq.lt; omega
                            replace hW := hW.trans (baN.mono hW.size)
                            replace ho30 := ho30.below baN
                            replace ho31 := ho31.below baN
                            replace bq := bq.below baN
                            rw [← hze] at bp ⊢
                            clear hze baN
                            generalize wd397.alloc (.cells #[.int .i64 0, .slice none 0 0] 35) = wd3978 at *
                            refine pl_end hW ⟨.agg #[.int .i64 (getL R.1 (pL x)).1, .slice A30 l30.length c30], .agg #[.int .i64 (getL R.2.1 (pL x)).1, .slice A31 l31.length c31], .pointer (some ⟨zp, 0, none⟩), .pointer (some ⟨zq, 0, none⟩), rfl, ⟨A30, c30, l30, A31, c31, l31, zp, zq, rfl, rfl, rfl, rfl, hl30, hl31, ho30, ho31, bp, bq, hpq, hzp, hzq, hW⟩⟩
                        · refine al_val (by kernel_rfl) ⟨_, _, (by (go_simp; first | done | exact ⟨rfl, rfl⟩)), _, (by (simp only [Act.put, List.setIfInBounds_toArray, List.set_cons_zero, List.set_cons_succ]; rfl)), ?_⟩
                          obtain ⟨zp, hze⟩ : ∃ z, z = wd39.heap.size := ⟨_, rfl⟩
                          have baN : Below wd39.heap.size wd39 (wd39.alloc (.cells #[.int .i64 0, .slice none 0 0] 35)) := (Below.refl _ _).alloc (Nat.le_refl _) _
                          have bp : Blk (wd39.alloc (.cells #[.int .i64 0, .slice none 0 0] 35)) (wd39.heap.size) 35 #[.int .i64 0, .slice none 0 0] := Blk.new wd39 35 #[.int .i64 0, .slice none 0 0]
                          have hzp : w23.heap.size ≤ zp := by rw [hze]; exact hW.size
                          have hpq : zp ≠ zq := by have := bq.lt; omega
                          replace hW := hW.trans (baN.mono hW.size)
                          replace ho30 := ho30.below baN
                          replace bq := bq.below baN
                          rw [← hze] at bp ⊢
                          clear hze baN
                          generalize wd39.alloc (.cells #[.int .i64 0, .slice none 0 0] 35) = wd398 at *
                          refine pl_one (by (simp only [List.getElem?_toArray, List.getElem?_cons_succ, List.getElem?_cons_zero]; rfl)) hW ?_
                          · refine al_call (by kernel_rfl) ?_ (HG2.out _ hW) ?_
                            · (go_simp; done)
                            rintro e wd3987 ⟨A31, c31, l31, rfl, hl31, ho31, hbN⟩
                            have ho31x : OwB wd3987 0 (.slice A31 l31.length c31) l31 := own_base (base' := 0) ho31 (fun _ _ => Nat.zero_le _)
                            clear ho31
                            have ho31 := ho31x
                            clear ho31x
                            replace hW := hW.trans (hbN.mono hW.size)
                            replace ho30 := ho30.below hbN
                            replace bp := bp.below hbN
                            replace bq := bq.below hbN
                            clear hbN
                            refine ⟨_, rfl, _, (by (simp only [Act.put, List.setIfInBounds_toArray, List.set_cons_zero, List.set_cons_succ]; rfl)), ?_⟩
                            refine pl_end hW ⟨.agg #[.int .i64 (getL R.1 (pL x)).1, .slice A30 l30.length c30], .agg #[.int .i64 (getL R.2.1 (pL x)).1, .slice A31 l31.length c31], .pointer (some ⟨zp, 0, none⟩), .pointer (some ⟨zq, 0, none⟩), rfl, ⟨A30, c30, l30, A31, c31, l31, zp, zq, rfl, rfl, rfl, rfl, hl30, hl31, ho30, ho31, bp, bq, hpq, hzp, hzq, hW⟩⟩
                    · refine al_val (by kernel_rfl) ⟨_, _, (by (go_simp; first | done | exact ⟨rfl, rfl⟩)), _, (by (simp only [Act.put, List.setIfInBounds_toArray, List.set_cons_zero, List.set_cons_succ]; rfl)), ?_⟩
                      obtain ⟨zp, hze⟩ : ∃ z, z = wD.heap.size := ⟨_, rfl⟩
                      have baN : Below wD.heap.size wD (wD.alloc (.cells #[.int .i64 0, .slice none 0 0] 35)) := (Below.refl _ _).alloc (Nat.le_refl _) _
                      have bp : Blk (wD.alloc (.cells #[.int .i64 0, .slice none 0 0] 35)) (wD.heap.size) 35 #[.int .i64 0, .slice none 0 0] := Blk.new wD 35 #[.int .i64 0, .slice none 0 0]
                      have hzp : w23.heap.size ≤ zp := by rw [hze]; exact hW.size
                      replace hW := hW.trans (baN.mono hW.size)
                      rw [← hze] at bp ⊢
                      clear hze baN
                      generalize wD.alloc (.cells #[.int .i64 0, .slice none 0 0] 35) = wd8 at *
                      refine pl_two (by (simp only [List.getElem?_toArray, List.getElem?_cons_succ, List.getElem?_cons_zero]; rfl)) (by (simp only [List.getElem?_toArray, List.getElem?_cons_succ, List.getElem?_cons_zero]; rfl)) hW ?_ ?_
                      · refine al_call (by kernel_rfl) ?_ (HG1.out _ hW) ?_
                        · (go_simp; done)
                        rintro e wd83 ⟨A30, c30, l30, rfl, hl30, ho30, hbN⟩
                        have ho30x : OwB wd83 0 (.slice A30 l30.length c30) l30 := own_base (base' := 0) ho30 (fun _ _ => Nat.zero_le _)
                        clear ho30
                        have ho30 := ho30x
                        clear ho30x
                        replace hW := hW.trans (hbN.mono hW.size)
                        replace bp := bp.below hbN
                        clear hbN
                        refine ⟨_, rfl, _, (by (simp only [Act.put, List.setIfInBounds_toArray, List.set_cons_zero, List.set_cons_succ]; rfl)), ?_⟩
                        refine pl_two (by (simp only [List.getElem?_toArray, List.getElem?_cons_succ, List.getElem?_cons_zero]; rfl)) (by (simp only [List.getElem?_toArray, List.getElem?_cons_succ, List.getElem?_cons_zero]; rfl)) hW ?_ ?_
                        · refine al_call (by kernel_rfl) ?_ (HG2.out _ hW) ?_
                          · (go_simp; done)
                          rintro e wd837 ⟨A31, c31, l31, rfl, hl31, ho31, hbN⟩
                          have ho31x : OwB wd837 0 (.slice A31 l31.length c31) l31 := own_base (base' := 0) ho31 (fun _ _ => Nat.zero_le _)
                          clear ho31
                          have ho31 := ho31x
                          clear ho31x
                          replace hW := hW.trans (hbN.mono hW.size)
                          replace ho30 := ho30.below hbN
                          replace bp := bp.below hbN
                          clear hbN
                          refine ⟨_, rfl, _, (by (simp only [Act.put, List.setIfInBounds_toArray, List.set_cons_zero, List.set_cons_succ]; rfl)), ?_⟩
                          refine pl_one (by (simp only [List.getElem?_toArray, List.getElem?_cons_succ, List.getElem?_cons_zero]; rfl)) hW ?_
                          · refine al_val (by kernel_rfl) ⟨_, _, (by (go_simp; first | done | exact ⟨rfl, rfl⟩)), _, (by (simp only [Act.put, List.setIfInBounds_toArray, List.set_cons_zero, List.set_cons_succ]; rfl)), ?_⟩
                            obtain ⟨zq, hze⟩ : ∃ z, z = wd837.heap.size := ⟨_, rfl⟩
                            have baN : Below wd837.heap.size wd837 (wd837.alloc (.cells #[.int .i64 0, .slice none 0 0] 35)) := (Below.refl _ _).alloc (Nat.le_refl _) _
                            have bq : Blk (wd837.alloc (.cells #[.int .i64 0, .slice none 0 0] 35)) (wd837.heap.size) 35 #[.int .i64 0, .slice none 0 0] := Blk.new wd837 35 #[.int .i64 0, .slice none 0 0]
                            have hzq : w23.heap.size ≤ zq := by rw [hze]; exact hW.size
                            have hpq : zp ≠ zq := by have := bp.lt; omega
                            replace hW := hW.trans (baN.mono hW.size)
                            replace ho30 := ho30.below baN
                            replace ho31 := ho31.below baN
                            replace bp := bp.below baN
                            rw [← hze] at bq ⊢
                            clear hze baN
                            generalize wd837.alloc (.cells #[.int .i64 0, .slice none 0 0] 35) = wd8379 at *
                            refine pl_end hW ⟨.agg #[.int .i64 (getL R.1 (pL x)).1, .slice A30 l30.length c30], .agg #[.int .i64 (getL R.2.1 (pL x)).1, .slice A31 l31.length c31], .pointer (some ⟨zp, 0, none⟩), .pointer (some ⟨zq, 0, none⟩), rfl, ⟨A30, c30, l30, A31, c31, l31, zp, zq, rfl, rfl, rfl, rfl, hl30, hl31, ho30, ho31, bp, bq, hpq, hzp, hzq, hW⟩⟩
                        · refine al_val (by kernel_rfl) ⟨_, _, (by (go_simp; first | done | exact ⟨rfl, rfl⟩)), _, (by (simp only [Act.put, List.setIfInBounds_toArray, List.set_cons_zero, List.set_cons_succ]; rfl)), ?_⟩
                          obtain ⟨zq, hze⟩ : ∃ z, z = wd83.heap.size := ⟨_, rfl⟩
                          have baN : Below wd83.heap.size wd83 (wd83.alloc (.cells #[.int .i64 0, .slice none 0 0] 35)) := (Below.refl _ _).alloc (Nat.le_refl _) _
                          have bq : Blk (wd83.alloc (.cells #[.int .i64 0, .slice none 0 0] 35)) (wd83.heap.size) 35 #[.int .i64 0, .slice none 0 0] := Blk.new wd83 35 #[.int .i64 0, .slice none 0 0]
                          have hzq : w23.heap.size ≤ zq := by rw [hze]; exact hW.size
                          have hpq : zp ≠ zq := by have := bp.lt; omega
                          replace hW := hW.trans (baN.mono hW.size)
                          replace ho30 := ho30.below baN
                          replace bp := bp.below baN
                          rw [← hze] at bq ⊢
                          clear hze baN
                          generalize wd83.alloc (.cells #[.int .i64 0, .slice none 0 0] 35) = wd839 at *
                          refine pl_one (by (simp only [List.getElem?_toArray, List.getElem?_cons_succ, List.getElem?_cons_zero]; rfl)) hW ?_
                          · refine al_call (by kernel_rfl) ?_ (HG2.out _ hW) ?_
                            · (go_simp; done)
                            rintro e wd8397 ⟨A31, c31, l31, rfl, hl31, ho31, hbN⟩
                            have ho31x : OwB wd8397 0 (.slice A31 l31.length c31) l31 := own_base (base' := 0) ho31 (fun _ _ => Nat.zero_le _)
                            clear ho31
                            have ho31 := ho31x
                            clear ho31x
                            replace hW := hW.trans (hbN.mono hW.size)
                            replace ho30 := ho30.below hbN
                            replace bp := bp.below hbN
                            replace bq := bq.below hbN
                            clear hbN
                            refine ⟨_, rfl, _, (by (simp only [Act.put, List.setIfInBounds_toArray, List.set_cons_zero, List.set_cons_succ]; rfl)), ?_⟩
                            refine pl_end hW ⟨.agg #[.int .i64 (getL R.1 (pL x)).1, .slice A30 l30.length c30], .agg #[.int .i64 (getL R.2.1 (pL x)).1, .slice A31 l31.length c31], .pointer (some ⟨zp, 0, none⟩), .pointer (some ⟨zq, 0, none⟩), rfl, ⟨A30, c30, l30, A31, c31, l31, zp, zq, rfl, rfl, rfl, rfl, hl30, hl31, ho30, ho31, bp, bq, hpq, hzp, hzq, hW⟩⟩
                      · refine al_val (by kernel_rfl) ⟨_, _, (by (go_simp; first | done | exact ⟨rfl, rfl⟩)), _, (by (simp only [Act.put, List.setIfInBounds_toArray, List.set_cons_zero, List.set_cons_succ]; rfl)), ?_⟩
                        obtain ⟨zq, hze⟩ : ∃ z, z = wd8.heap.size := ⟨_, rfl⟩
                        have baN : Below wd8.heap.size wd8 (wd8.alloc (.cells #[.int .i64 0, .slice none 0 0] 35)) := (Below.refl _ _).alloc (Nat.le_refl _) _
                        have bq : Blk (wd8.alloc (.cells #[.int .i64 0, .slice none 0 0] 35)) (wd8.heap.size) 35 #[.int .i64 0, .slice none 0 0] := Blk.new wd8 35 #[.int .i64 0, .slice none 0 0]
                        have hzq : w23.heap.size ≤ zq := by rw [hze]; exact hW.size
                        have hpq : zp ≠ zq := by have := bp.lt; omega
                        replace hW := hW.trans (baN.mono hW.size)
                        replace bp := bp.below baN
                        rw [← hze] at bq ⊢
                        clear hze baN
                        generalize wd8.alloc (.cells #[.int .i64 0, .slice none 0 0] 35) = wd89 at *
                        refine pl_one (by (simp only [List.getElem?_toArray, List.getElem?_cons_succ, List.getElem?_cons_zero]; rfl)) hW ?_
                        · refine al_call (by kernel_rfl) ?_ (HG1.out _ hW) ?_
                          · (go_simp; done)
                          rintro e wd893 ⟨A30, c30, l30, rfl, hl30, ho30, hbN⟩
                          have ho30x : OwB wd893 0 (.slice A30 l30.length c30) l30 := own_base (base' := 0) ho30 (fun _ _ => Nat.zero_le _)
                          clear ho30
                          have ho30 := ho30x
                          clear ho30x
                          replace hW := hW.trans (hbN.mono hW.size)
                          replace bp := bp.below hbN
                          replace bq := bq.below hbN
                          clear hbN
                          refine ⟨_, rfl, _, (by (simp only [Act.put, List.setIfInBounds_toArray, List.set_cons_zero, List.set_cons_succ]; rfl)), ?_⟩
                          refine pl_one (by (simp only [List.getElem?_toArray, List.getElem?_cons_succ, List.getElem?_cons_zero]; rfl)) hW ?_
                          · refine al_call (by kernel_rfl) ?_ (HG2.out _ hW) ?_
                            · (go_simp; done)
                            rintro e wd8937 ⟨A31, c31, l31, rfl, hl31, ho31, hbN⟩
                            have ho31x : OwB wd8937 0 (.slice A31 l31.length c31) l31 := own_base (base' := 0) ho31 (fun _ _ => Nat.zero_le _)
                            clear ho31
                            have ho31 := ho31x
                            clear ho31x
                            replace hW := hW.trans (hbN.mono hW.size)
                            replace ho30 := ho30.below hbN
                            replace bp := bp.below hbN
                            replace bq := bq.below hbN
                            clear hbN
                            refine ⟨_, rfl, _, (by (simp only [Act.put, List.setIfInBounds_toArray, List.set_cons_zero, List.set_cons_succ]; rfl)), ?_⟩
                            refine pl_end hW ⟨.agg #[.int .i64 (getL R.1 (pL x)).1, .slice A30 l30.length c30], .agg #[.int .i64 (getL R.2.1 (pL x)).1, .slice A31 l31.length c31], .pointer (some ⟨zp, 0, none⟩), .pointer (some ⟨zq, 0, none⟩), rfl, ⟨A30, c30, l30, A31, c31, l31, zp, zq, rfl, rfl, rfl, rfl, hl30, hl31, ho30, ho31, bp, bq, hpq, hzp, hzq, hW⟩⟩
                    · refine al_val (by kernel_rfl) ⟨_, _, (by (go_simp; first | done | exact ⟨rfl, rfl⟩)), _, (by (simp only [Act.put, List.setIfInBounds_toArray, List.set_cons_zero, List.set_cons_succ]; rfl)), ?_⟩
                      obtain ⟨zq, hze⟩ : ∃ z, z = wD.heap.size := ⟨_, rfl⟩
                      have baN : Below wD.heap.size wD (wD.alloc (.cells #[.int .i64 0, .slice none 0 0] 35)) := (Below.refl _ _).alloc (Nat.le_refl _) _
                      have bq : Blk (wD.alloc (.cells #[.int .i64 0, .slice none 0 0] 35)) (wD.heap.size) 35 #[.int .i64 0, .slice none 0 0] := Blk.new wD 35 #[.int .i64 0, .slice none 0 0]
                      have hzq : w23.heap.size ≤ zq := by rw [hze]; exact hW.size
                      replace hW := hW.trans (baN.mono hW.size)
                      rw [← hze] at bq ⊢
                      clear hze baN
                      generalize wD.alloc (.cells #[.int .i64 0, .slice none 0 0] 35) = wd9 at *
                      refine pl_two (by (simp only [List.getElem?_toArray, List.getElem?_cons_succ, List.getElem?_cons_zero]; rfl)) (by (simp only [List.getElem?_toArray, List.getElem?_cons_succ, List.getElem?_cons_zero]; rfl)) hW ?_ ?_
                      · refine al_call (by kernel_rfl) ?_ (HG1.out _ hW) ?_
                        · (go_simp; done)
                        rintro e wd93 ⟨A30, c30, l30, rfl, hl30, ho30, hbN⟩
                        have ho30x : OwB wd93 0 (.slice A30 l30.length c30) l30 := own_base (base' := 0) ho30 (fun _ _ => Nat.zero_le _)
                        clear ho30
                        have ho30 := ho30x
                        clear ho30x
                        replace hW := hW.trans (hbN.mono hW.size)
                        replace bq := bq.below hbN
                        clear hbN
                        refine ⟨_, rfl, _, (by (simp only [Act.put, List.setIfInBounds_toArray, List.set_cons_zero, List.set_cons_succ]; rfl)), ?_⟩
                        refine pl_two (by (simp only [List.getElem?_toArray, List.getElem?_cons_succ, List.getElem?_cons_zero]; rfl)) (by (simp only [List.getElem?_toArray, List.getElem?_cons_succ, List.getElem?_cons_zero]; rfl)) hW ?_ ?_
                        · refine al_call (by kernel_rfl) ?_ (HG2.out _ hW) ?_
                          · (go_simp; done)
                          rintro e wd937 ⟨A31, c31, l31, rfl, hl31, ho31, hbN⟩
                          have ho31x : OwB wd937 0 (.slice A31 l31.length c31) l31 := own_base (base' := 0) ho31 (fun _ _ => Nat.zero_le _)
                          clear ho31
                          have ho31 := ho31x
                          clear ho31x
                          replace hW := hW.trans (hbN.mono hW.size)
                          replace ho30 := ho30.below hbN
                          replace bq := bq.below hbN
                          clear hbN
                          refine ⟨_, rfl, _, (by (simp only [Act.put, List.setIfInBounds_toArray, List.set_cons_zero, List.set_cons_succ]; rfl)), ?_⟩
                          refine pl_one (by (simp only [List.getElem?_toArray, List.getElem?_cons_succ, List.getElem?_cons_zero]; rfl)) hW ?_
                          · refine al_val (by kernel_rfl) ⟨_, _, (by (go_simp; first | done | exact ⟨rfl, rfl⟩)), _, (by (simp only [Act.put, List.setIfInBounds_toArray, List.set_cons_zero, List.set_cons_succ]; rfl)), ?_⟩
                            obtain ⟨zp, hze⟩ : ∃ z, z = wd937.heap.size := ⟨_, rfl⟩
                            have baN : Below wd937.heap.size wd937 (wd937.alloc (.cells #[.int .i64 0, .slice none 0 0] 35)) := (Below.refl _ _).alloc (Nat.le_refl _) _
                            have bp : Blk (wd937.alloc (.cells #[.int .i64 0, .slice none 0 0] 35)) (wd937.heap.size) 35 #[.int .i64 0, .slice none 0 0] := Blk.new wd937 35 #[.int .i64 0, .slice none 0 0]
                            have hzp : w23.heap.size ≤ zp := by rw [hze]; exact hW.size
                            have hpq : zp ≠ zq := by have := bq.lt; omega
                            replace hW := hW.trans (baN.mono hW.size)
                            replace ho30 := ho30.below baN
                            replace ho31 := ho31.below baN
                            replace bq := bq.below baN
                            rw [← hze] at bp ⊢
                            clear hze baN
                            generalize wd937.alloc (.cells #[.int .i64 0, .slice none 0 0] 35) = wd9378 at *
                            refine pl_end hW ⟨.agg #[.int .i64 (getL R.1 (pL x)).1, .slice A30 l30.length c30], .agg #[.int .i64 (getL R.2.1 (pL x)).1, .slice A31 l31.length c31], .pointer (some ⟨zp, 0, none⟩), .pointer (some ⟨zq, 0, none⟩), rfl, ⟨A30, c30, l30, A31, c31, l31, zp, zq, rfl, rfl, rfl, rfl, hl30, hl31, ho30, ho31, bp, bq, hpq, hzp, hzq, hW⟩⟩
                        · refine al_val (by kernel_rfl) ⟨_, _, (by (go_simp; first | done | exact ⟨rfl, rfl⟩)), _, (by (simp only [Act.put, List.setIfInBounds_toArray, List.set_cons_zero, List.set_cons_succ]; rfl)), ?_⟩
                          obtain ⟨zp, hze⟩ : ∃ z, z = wd93.heap.size := ⟨_, rfl⟩
                          have baN : Below wd93.heap.size wd93 (wd93.alloc (.cells #[.int .i64 0, .slice none 0 0] 35)) := (Below.refl _ _).alloc (Nat.le_refl _) _
                          have bp : Blk (wd93.alloc (.cells #[.int .i64 0, .slice none 0 0] 35)) (wd93.heap.size) 35 #[.int .i64 0, .slice none 0 0] := Blk.new wd93 35 #[.int .i64 0, .slice none 0 0]
                          have hzp : w23.heap.size ≤ zp := by rw [hze]; exact hW.size
                          have hpq : zp ≠ zq := by have := bq.lt; omega
                          replace hW := hW.trans (baN.mono hW.size)
                          replace ho30 := ho30.below baN
                          replace bq := bq.below baN
                          rw [← hze] at bp ⊢
                          clear hze baN
                          generalize wd93.alloc (.cells #[.int .i64 0, .slice none 0 0] 35) = wd938 at *
                          refine pl_one (by (simp only [List.getElem?_toArray, List.getElem?_cons_succ, List.getElem?_cons_zero]; rfl)) hW ?_
                          · refine al_call (by kernel_rfl) ?_ (HG2.out _ hW) ?_
                            · (go_simp; done)
                            rintro e wd9387 ⟨A31, c31, l31, rfl, hl31, ho31, hbN⟩
                            have ho31x : OwB wd9387 0 (.slice A31 l31.length c31) l31 := own_base (base' := 0) ho31 (fun _ _ => Nat.zero_le _)
                            clear ho31
                            have ho31 := ho31x
                            clear ho31x
                            replace hW := hW.trans (hbN.mono hW.size)
                            replace ho30 := ho30.below hbN
                            replace bp := bp.below hbN
                            replace bq := bq.below hbN
                            clear hbN
                            refine ⟨_, rfl, _, (by (simp only [Act.put, List.setIfInBounds_toArray, List.set_cons_zero, List.set_cons_succ]; rfl)), ?_⟩
                            refine pl_end hW ⟨.agg #[.int .i64 (getL R.1 (pL x)).1, .slice A30 l30.length c30], .agg #[.int .i64 (getL R.2.1 (pL x)).1, .slice A31 l31.length c31], .pointer (some ⟨zp, 0, none⟩), .pointer (some ⟨zq, 0, none⟩), rfl, ⟨A30, c30, l30, A31, c31, l31, zp, zq, rfl, rfl, rfl, rfl, hl30, hl31, ho30, ho31, bp, bq, hpq, hzp, hzq, hW⟩⟩
                      · refine al_val (by kernel_rfl) ⟨_, _, (by (go_simp; first | done | exact ⟨rfl, rfl⟩)), _, (by (simp only [Act.put, List.setIfInBounds_toArray, List.set_cons_zero, List.set_cons_succ]; rfl)), ?_⟩
                        obtain ⟨zp, hze⟩ : ∃ z, z = wd9.heap.size := ⟨_, rfl⟩
                        have baN : Below wd9.heap.size wd9 (wd9.alloc (.cells #[.int .i64 0, .slice none 0 0] 35)) := (Below.refl _ _).alloc (Nat.le_refl _) _
                        have bp : Blk (wd9.alloc (.cells #[.int .i64 0, .slice none 0 0] 35)) (wd9.heap.size) 35 #[.int .i64 0, .slice none 0 0] := Blk.new wd9 35 #[.int .i64 0, .slice none 0 0]
                        have hzp : w23.heap.size ≤ zp := by rw [hze]; exact hW.size
                        have hpq : zp ≠ zq := by have := bq.lt; omega
                        replace hW := hW.trans (baN.mono hW.size)
                        replace bq := bq.below baN
                        rw [← hze] at bp ⊢
                        clear hze baN
                        generalize wd9.alloc (.cells #[.int .i64 0, .slice none 0 0] 35) = wd98 at *
                        refine pl_one (by (simp only [List.getElem?_toArray, List.getElem?_cons_succ, List.getElem?_cons_zero]; rfl)) hW ?_
                        · refine al_call (by kernel_rfl) ?_ (HG1.out _ hW) ?_
                          · (go_simp; done)
                          rintro e wd983 ⟨A30, c30, l30, rfl, hl30, ho30, hbN⟩
                          have ho30x : OwB wd983 0 (.slice A30 l30.length c30) l30 := own_base (base' := 0) ho30 (fun _ _ => Nat.zero_le _)
                          clear ho30
                          have ho30 := ho30x
                          clear ho30x
                          replace hW := hW.trans (hbN.mono hW.size)
                          replace bp := bp.below hbN
                          replace bq := bq.below hbN
                          clear hbN
                          refine ⟨_, rfl, _, (by (simp only [Act.put, List.setIfInBounds_toArray, List.set_cons_zero, List.set_cons_succ]; rfl)), ?_⟩
                          refine pl_one (by (simp only [List.getElem?_toArray, List.getElem?_cons_succ, List.getElem?_cons_zero]; rfl)) hW ?_
                          · refine al_call (by kernel_rfl) ?_ (HG2.out _ hW) ?_
                            · (go_simp; done)
                            rintro e wd9837 ⟨A31, c31, l31, rfl, hl31, ho31, hbN⟩
                            have ho31x : OwB wd9837 0 (.slice A31 l31.length c31) l31 := own_base (base' := 0) ho31 (fun _ _ => Nat.zero_le _)
                            clear ho31
                            have ho31 := ho31x
                            clear ho31x
                            replace hW := hW.trans (hbN.mono hW.size)
                            replace ho30 := ho30.below hbN
                            replace bp := bp.below hbN
                            replace bq := bq.below hbN
                            clear hbN
                            refine ⟨_, rfl, _, (by (simp only [Act.put, List.setIfInBounds_toArray, List.set_cons_zero, List.set_cons_succ]; rfl)), ?_⟩
                            refine pl_end hW ⟨.agg #[.int .i64 (getL R.1 (pL x)).1, .slice A30 l30.length c30], .agg #[.int .i64 (getL R.2.1 (pL x)).1, .slice A31 l31.length c31], .pointer (some ⟨zp, 0, none⟩), .pointer (some ⟨zq, 0, none⟩), rfl, ⟨A30, c30, l30, A31, c31, l31, zp, zq, rfl, rfl, rfl, rfl, hl30, hl31, ho30, ho31, bp, bq, hpq, hzp, hzq, hW⟩⟩
                    intro v1 v2 v3 v4 w24 hJ
                    obtain ⟨A30, c30, l30, A31, c31, l31, zp, zq, rfl, rfl, rfl, rfl, hl30, hl31, ho30, ho31, bp, bq, hpq, hzp, hzq, hb24⟩ := hJ
                    simp only [Plan.count, Nat.reduceAdd, List.drop_succ_cons, List.drop_zero]
                    have cP0 := bp.cell 0
                    have cP1 := bp.cell 1
                    have cQ0 := bq.cell 0
                    have cQ1 := bq.cell 1
                    simp only [List.getElem?_toArray, List.getElem?_cons_zero, List.getElem?_cons_succ] at cP0 cP1 cQ0 cQ1
                    have fP0 := bp.frozen 0
                    have fP1 := bp.frozen 1
                    have fQ0 := bq.frozen 0
                    have fQ1 := bq.frozen 1
                    have k25 : Fr (fun y => y = zp ∨ y = zq) w24 ((((w24.setCell ⟨zp, 0, none⟩ (.int .i64 (getL R.1 (pL x)).1)).setCell ⟨zp, 1, none⟩ (.slice A30 l30.length c30)).setCell ⟨zq, 0, none⟩ (.int .i64 (getL R.2.1 (pL x)).1)).setCell ⟨zq, 1, none⟩ (.slice A31 l31.length c31)) := ((((Fr.refl (fun y => y = zp ∨ y = zq) w24).setAt zp 0 (.inl rfl) _).setAt zp 1 (.inl rfl) _).setAt zq 0 (.inr rfl) _).setAt zq 1 (.inr rfl) _
                    have b25 := (bp.set_ 0 (.int .i64 (getL R.1 (pL x)).1)).set_ 1 (.slice A30 l30.length c30)
                    have kq : Fr (fun y => y = zp) w24 ((w24.setCell ⟨zp, 0, none⟩ (.int .i64 (getL R.1 (pL x)).1)).setCell ⟨zp, 1, none⟩ (.slice A30 l30.length c30)) := ((Fr.refl (fun y => y = zp) w24).setAt zp 0 rfl _).setAt zp 1 rfl _
                    have q25 := ((bq.fr kq (fun e => hpq e.symm)).set_ 0 (.int .i64 (getL R.2.1 (pL x)).1)).set_ 1 (.slice A31 l31.length c31)
                    have kp : Fr (fun y => y = zq) ((w24.setCell ⟨zp, 0, none⟩ (.int .i64 (getL R.1 (pL x)).1)).setCell ⟨zp, 1, none⟩ (.slice A30 l30.length c30)) ((((w24.setCell ⟨zp, 0, none⟩ (.int .i64 (getL R.1 (pL x)).1)).setCell ⟨zp, 1, none⟩ (.slice A30 l30.length c30)).setCell ⟨zq, 0, none⟩ (.int .i64 (getL R.2.1 (pL x)).1)).setCell ⟨zq, 1, none⟩ (.slice A31 l31.length c31)) := ((Fr.refl (fun y => y = zq) _).setAt zq 0 rfl _).setAt zq 1 rfl _
                    replace b25 := b25.fr kp hpq
                    have c25 := (HBC.out.below hb24).fr k25 (by rintro (e | e) <;> omega)
                    have ho30' := ho30.fr k25 (fun g hg e => e.elim (ho30.ne_leaf bp g hg) (ho30.ne_leaf bq g hg))
                    have ho31' := ho31.fr k25 (fun g hg e => e.elim (ho31.ne_leaf bp g hg) (ho31.ne_leaf bq g hg))
                    have hb25 := hb24.trans (k25.below (B := w23.heap.size) hb24.size (by rintro k hk (e | e) <;> omega))
                    simp only [List.setIfInBounds_toArray, List.set_cons_zero, List.set_cons_succ] at b25 q25
                    clear k25 kq kp ho30 ho31 bp bq hb24 HG1 HG2
                    go_upto_region 37 with (fail)
                    clear cP0 cP1 cQ0 cQ1 fP0 fP1 fQ0 fQ1
                    generalize ((((w24.setCell ⟨zp, 0, none⟩ (.int .i64 (getL R.1 (pL x)).1)).setCell ⟨zp, 1, none⟩ (.slice A30 l30.length c30)).setCell ⟨zq, 0, none⟩ (.int .i64 (getL R.2.1 (pL x)).1)).setCell ⟨zq, 1, none⟩ (.slice A31 l31.length c31)) = w25 at *
                    obtain ⟨q0, q1, q2, q3, q4, q5, q6, q7, q8⟩ := cells9 c25
                    have cP0 := b25.cell 0
                    have cP1 := b25.cell 1
                    have cQ0 := q25.cell 0
                    have cQ1 := q25.cell 1
                    simp only [List.getElem?_toArray, List.getElem?_cons_zero, List.getElem?_cons_succ] at cP0 cP1 cQ0 cQ1
                    have hbw := hb23.trans (hb25.mono hb23.size)
                    by_cases hv5 : x.v = 5
                    · obtain ⟨hA5, hB5⟩ := HEND.out.2 hv5
                      have HA5 := Lib.hid hA5
                      have HB5 := Lib.hid hB5
                      have HV1 := Lib.hid (fun W (hW : Below w25.heap.size w25 W) => refGetO_any B4 d4 M4 x W (HP1.out.its.below (hbw.trans (hW.mono hbw.size))) hpx)
                      have HV2 := Lib.hid (fun W (hW : Below w25.heap.size w25 W) => refGetO_any B5 d5 M5 x W (HP2.out.its.below (hbw.trans (hW.mono hbw.size))) hpx)
                      rw [HP1.out.same.out] at HV1
                      rw [HP2.out.same.out] at HV2
                      rw [hv5] at q8
                      have HB25 := Lib.hid b25
                      have HQ25 := Lib.hid q25
                      have HC25 := Lib.hid c25
                      have HO30 := Lib.hid ho30'
                      have HO31 := Lib.hid ho31'
                      clear hA5 hB5 b25 q25 c25 ho30' ho31'
                      go_wp2_with fail
                      refine wp_region_p [(0, true), (1, true), (2, true), (3, true), (4, false), (5, false), (6, true), (7, true), (8, true), (9, true), (10, true), (11, true), (12, false), (13, false), (14, true), (15, true)] (fun W => Below w25.heap.size w25 W) (by kernel_rfl) (by kernel_rfl) ?_
                      simp only [List.map_cons, List.map_nil, List.filterMap_cons, List.filterMap_nil, List.getElem?_cons_zero, List.getElem?_cons_succ, List.length_cons, List.length_nil, Nat.zero_add, Nat.reduceAdd, List.drop_succ_cons, List.drop_zero]
                      refine mx_val (by kernel_rfl) ⟨_, (by (intro w' hC; (have cP0 := (HB25.out.below hC).cell 0; have cP1 := (HB25.out.below hC).cell 1; simp only [List.getElem?_toArray, List.getElem?_cons_zero, List.getElem?_cons_succ] at cP0 cP1); clear hC; (try go_simp); (try with_reducible rfl); done)), _, (by (simp only [Act.put, List.setIfInBounds_toArray, List.set_cons_zero, List.set_cons_succ]; rfl)), ?_⟩
                      refine mx_move _ (by kernel_rfl) rfl ⟨_, (by ((try simp [go_sem]); (try rfl); done)), _, (by (simp only [Act.put, List.setIfInBounds_toArray, List.set_cons_zero, List.set_cons_succ]; rfl)), ?_⟩
                      refine mx_val (by kernel_rfl) ⟨_, (by (intro w' hC; clear hC; (try go_simp); (try with_reducible rfl); done)), _, (by (simp only [Act.put, List.setIfInBounds_toArray, List.set_cons_zero, List.set_cons_succ]; rfl)), ?_⟩
                      refine mx_val (by kernel_rfl) ⟨_, (by (intro w' hC; (obtain ⟨q0, q1, q2, q3, q4, q5, q6, q7, q8⟩ := cells9 (HC25.out.below hC)); clear hC; (try go_simp); (try with_reducible rfl); done)), _, (by (simp only [Act.put, List.setIfInBounds_toArray, List.set_cons_zero, List.set_cons_succ]; rfl)), ?_⟩
                      refine mx_call ((Below.refl _ _).drew) (by kernel_rfl) ?_ (HV1.out _ (Below.refl _ _).drew) ?_
                      · (go_simp; done)
                      rintro e w26 ⟨A40, c40, l40, rfl, hl40, hok40, _, hb26⟩
                      have hb26' : Below w25.heap.size w25 w26 := (Below.refl _ _).drew.trans (hb26.mono (Below.refl w25.heap.size w25).drew.size)
                      have hs1 := leafSameR_any (getL R.1 (pL x)).1 (getL T1 (pL x)).1 A30 A40 c30 c40 l30 l40 _ _ w26 (HO30.out.below hb26').rd hok40.1
                      rw [same_true (a := getL T1 (pL x)) (by rw [HA5.out]) rfl (by rw [hl30.out, HA5.out]) hl40.out] at hs1
                      refine ⟨_, rfl, _, (by (simp only [Act.put, List.setIfInBounds_toArray, List.set_cons_zero, List.set_cons_succ]; rfl)), ?_⟩
                      refine mx_call (hb26') (by kernel_rfl) ?_ (hs1) ?_
                      · (go_simp; done)
                      rintro e w27 ⟨rfl, hb27⟩
                      have hb27' : Below w25.heap.size w25 w27 := hb26'.trans (hb27.mono hb26'.size)
                      clear hs1
                      refine ⟨_, rfl, _, (by (simp only [Act.put, List.setIfInBounds_toArray, List.set_cons_zero, List.set_cons_succ]; rfl)), ?_⟩
                      refine mx_val (by kernel_rfl) ⟨_, (by (intro w' hC; clear hC; (try go_simp); (try with_reducible rfl); done)), _, (by (simp only [Act.put, List.setIfInBounds_toArray, List.set_cons_zero, List.set_cons_succ]; rfl)), ?_⟩
                      refine mx_move _ (by kernel_rfl) rfl ⟨_, (by ((try simp [go_sem]); (try rfl); done)), _, (by (simp only [Act.put, List.setIfInBounds_toArray, List.set_cons_zero, List.set_cons_succ]; rfl)), ?_⟩
                      refine mx_val (by kernel_rfl) ⟨_, (by (intro w' hC; (have cQ0 := (HQ25.out.below hC).cell 0; have cQ1 := (HQ25.out.below hC).cell 1; simp only [List.getElem?_toArray, List.getElem?_cons_zero, List.getElem?_cons_succ] at cQ0 cQ1); clear hC; (try go_simp); (try with_reducible rfl); done)), _, (by (simp only [Act.put, List.setIfInBounds_toArray, List.set_cons_zero, List.set_cons_succ]; rfl)), ?_⟩
                      refine mx_move _ (by kernel_rfl) rfl ⟨_, (by ((try simp [go_sem]); (try rfl); done)), _, (by (simp only [Act.put, List.setIfInBounds_toArray, List.set_cons_zero, List.set_cons_succ]; rfl)), ?_⟩
                      refine mx_val (by kernel_rfl) ⟨_, (by (intro w' hC; clear hC; (try go_simp); (try with_reducible rfl); done)), _, (by (simp only [Act.put, List.setIfInBounds_toArray, List.set_cons_zero, List.set_cons_succ]; rfl)), ?_⟩
                      refine mx_val (by kernel_rfl) ⟨_, (by (intro w' hC; (obtain ⟨q0, q1, q2, q3, q4, q5, q6, q7, q8⟩ := cells9 (HC25.out.below hC)); clear hC; (try go_simp); (try with_reducible rfl); done)), _, (by (simp only [Act.put, List.setIfInBounds_toArray, List.set_cons_zero, List.set_cons_succ]; rfl)), ?_⟩
                      refine mx_call (hb27') (by kernel_rfl) ?_ (HV2.out w27 hb27') ?_
                      · (go_simp; done)
                      rintro e w28 ⟨A41, c41, l41, rfl, hl41, hok41, _, hb28⟩
                      have hb28' : Below w25.heap.size w25 w28 := hb27'.trans (hb28.mono hb27'.size)
                      have hs2 := leafSameR_any (getL R.2.1 (pL x)).1 (getL T2 (pL x)).1 A31 A41 c31 c41 l31 l41 _ _ w28 (HO31.out.below hb28').rd hok41.1
                      rw [same_true (a := getL T2 (pL x)) (by rw [HB5.out]) rfl (by rw [hl31.out, HB5.out]) hl41.out] at hs2
                      refine ⟨_, rfl, _, (by (simp only [Act.put, List.setIfInBounds_toArray, List.set_cons_zero, List.set_cons_succ]; rfl)), ?_⟩
                      refine mx_call (hb28') (by kernel_rfl) ?_ (hs2) ?_
                      · (go_simp; done)
                      rintro e w29 ⟨rfl, hb29⟩
                      have hb29' : Below w25.heap.size w25 w29 := hb28'.trans (hb29.mono hb28'.size)
                      clear hs2
                      refine ⟨_, rfl, _, (by (simp only [Act.put, List.setIfInBounds_toArray, List.set_cons_zero, List.set_cons_succ]; rfl)), ?_⟩
                      refine mx_val (by kernel_rfl) ⟨_, (by (intro w' hC; clear hC; (try go_simp); (try with_reducible rfl); done)), _, (by (simp only [Act.put, List.setIfInBounds_toArray, List.set_cons_zero, List.set_cons_succ]; rfl)), ?_⟩
                      refine mx_val (by kernel_rfl) ⟨_, (by (intro w' hC; clear hC; (try go_simp); (try with_reducible rfl); done)), _, (by (simp only [Act.put, List.setIfInBounds_toArray, List.set_cons_zero, List.set_cons_succ]; rfl)), ?_⟩
                      refine mx_end hb29' ?_
                      have hbe := hbw.trans (hb29'.mono hbw.size)
                      clear hb26' hb27' hb28' hb29' hb26 hb27 hb28 hb29 hbw hb25
                      go_wp2_with fail
                      go_roundw
                      case rel => exact ⟨i + 1, hlt, by go_num, hbe⟩
                      case measure => simp [intOf]; omega
                    · have hvb : (x.v != 5) = true := by simpa using hv5
                      have hAB := HEND.out.1 hv5
                      have HS := Lib.hid (leafSameR_any (getL R.1 (pL x)).1 (getL R.2.1 (pL x)).1 A30 A31 c30 c31 l30 l31 _ _ w25 ho30'.rd ho31'.rd)
                      rw [same_true (a := getL R.1 (pL x)) rfl (by rw [hAB]) hl30.out (by rw [hl31.out, hAB])] at HS
                      clear hAB b25 q25 c25 ho30' ho31'
                      go_wp2_with fail
                      refine HS.out.mono ?_
                      rintro e w26 ⟨rfl, hb26⟩
                      have hbe := hbw.trans (hb26.mono hbw.size)
                      clear HS hb26 hbw hb25
                      go_wp2_with fail
                      go_roundw
                      case rel => exact ⟨i + 1, hlt, by go_num, hbe⟩
                      case measure => simp [intOf]; omega
                  · have hfin := hw20.trans (hb.mono hw20.size)
                    go_wp2_with fail
                    refine (lives28_any _).mono ?_
                    rintro e wl ⟨rfl, hbl⟩
                    have hfin := hfin.trans (hbl.mono hfin.size)
                    go_wp2_with fail
                    go_ret
                    exact ⟨rfl, hfin⟩
              · have hE : R.2.2 = 24 := HWA.out.1.resolve_left h0
                rw [hE]
                clear HAP HWA hR hb20 h0 hE
                go_wp2_with fail
                refine (lives28_any _).mono ?_
                rintro e wl ⟨rfl, hbl⟩
                have hfin := hw20.trans (hbl.mono hw20.size)
                go_wp2_with fail
                go_ret
                exact ⟨rfl, hfin⟩

end Go.Proofs.YtkeledbgmpienaaGreat
