/- WatchTells is true for every input: what stood where at any moment, whether something stood at a path between any moments, or at both sides at once, and when another thing came, is the document's. No condition beyond the row's own. -/
import Derived.Test.YtdnljmncdbcgeaaGreatA14

namespace Go.Proofs.YtdnljmncdbcgeaaGreat
open Go.RowKit Go.Maps

theorem some_congr {f g : Nat → Bool} {n : Nat} {a b : Int} (h : ∀ j, j < n → f j = g j) : someG f n a b = someG g n a b := by
  rcases hg : someG g n a b with _ | _
  · refine some_false fun j hj h1 h2 => ?_
    rw [h j hj]
    rcases hgj : g j with _ | _
    · rfl
    · rw [some_true hj h1 h2 hgj] at hg; cases hg
  · unfold someG at hg
    rw [List.any_eq_true] at hg
    obtain ⟨j, hj, h1⟩ := hg
    simp only [Bool.and_eq_true, decide_eq_true_eq] at h1
    exact some_true (List.mem_range.1 hj) h1.1.1 h1.1.2 (by rw [h j (List.mem_range.1 hj)]; exact h1.2)
section
variable {MS : List MO} {PL : List (List (List UInt8 × LP) × List (List UInt8 × LP))}
theorem mos_len (h : MS.map MO.pl = PL) : PL.length = MS.length := by rw [← h, List.length_map]
theorem side_len (h : MS.map MO.pl = PL) (side : Int) : (sideS (PL.map (·.1)) (PL.map (·.2)) side).length = if side = 1 ∨ side = 2 then MS.length else 0 := by
  unfold sideS
  by_cases h1 : side = 1
  · rw [if_pos h1, if_pos (.inl h1), List.length_map, mos_len h]
  · rw [if_neg h1]
    by_cases h2 : side = 2
    · rw [if_pos h2, if_pos (.inr h2), List.length_map, mos_len h]
    · rw [if_neg h2, if_neg (by rintro (e | e); (· exact h1 e); (· exact h2 e))]; rfl
theorem seen_is (h : MS.map MO.pl = PL) (side : Int) (p : List UInt8) (x : LP) (j : Nat) (hj : j < (sideS (PL.map (·.1)) (PL.map (·.2)) side).length) : seenM MS side p x j = isAt (sideS (PL.map (·.1)) (PL.map (·.2)) side) p x j := by
  unfold seenM isAt
  rw [rowM_at h, atS_nat hj]
theorem came_is (h : MS.map MO.pl = PL) (side : Int) (p : List UInt8) (j : Nat) : cameM MS side p j = cameS (sideS (PL.map (·.1)) (PL.map (·.2)) side) p j := by
  unfold cameM cameS
  rw [rowM_at h, rowM_at h]
theorem held_is (h : MS.map MO.pl = PL) (side : Int) (p : List UInt8) (x : LP) (a b : Int) :
    someG (seenM MS side p x) (if side = 1 ∨ side = 2 then MS.length else 0) a b = someG (isAt (sideS (PL.map (·.1)) (PL.map (·.2)) side) p x) (sideS (PL.map (·.1)) (PL.map (·.2)) side).length a b := by
  rw [← side_len h side]
  exact some_congr fun j hj => seen_is h side p x j hj
theorem common_is (h : MS.map MO.pl = PL) (p : List UInt8) (x : LP) (a b : Int) : someG (bothM MS p x) MS.length a b = someG (bothAt (PL.map (·.1)) (PL.map (·.2)) p x) (PL.map (·.1)).length a b := by
  rw [List.length_map, mos_len h]
  refine some_congr fun j hj => ?_
  unfold bothM bothAt
  rw [seen_is h 1 p x j (by show j < (PL.map (·.1)).length; rw [List.length_map, mos_len h]; exact hj), seen_is h 2 p x j (by show j < (PL.map (·.2)).length; rw [List.length_map, mos_len h]; exact hj)]
  rfl
theorem turns_is (h : MS.map MO.pl = PL) (side : Int) (p : List UInt8) : (List.range MS.length).filter (cameM MS side p) = (turnsG 0 ((0, []) : LP) ((sideS (PL.map (·.1)) (PL.map (·.2)) side).map fun T => at0 T p)).map (·.1) := by
  rw [turns_came, side_len h side]
  by_cases hs : side = 1 ∨ side = 2
  · rw [if_pos hs]
    exact List.filter_congr fun j _ => came_is h side p j
  · rw [if_neg hs, sideS_none hs]
    rw [show (List.range 0).filter (cameS [] p) = [] from rfl, List.filter_eq_nil_iff]
    intro j _
    rw [came_is h side p j, sideS_none hs]
    unfold cameS atS
    rw [if_neg (by simp <;> omega), if_neg (by simp <;> omega)]
    simp
end

set_option maxRecDepth 100000 in
set_option maxHeartbeats 4000000 in
theorem watchTells_any (B : Option Addr) (d : Nat) (L : List SV) (sd : Int) (p : List UInt8) (k : Int) (A : Option Addr) (c : Nat) (l : List UInt8) (fr to m : Int) (Z : Nat → Prop) (w : World) (h : StA w B L) (hy : By w Z A l) :
    Calls Tryz.prog 3 #[.slice B L.length d, .agg #[.int .i64 sd, .string ⟨⟨p⟩⟩, .int .i64 k, .slice A l.length c, .int .i64 fr, .int .i64 to], .int .i64 m] w fun e w' => e = .returned (.bool true) ∧ Below w.heap.size w w' := by
  have hb0 : Below w.heap.size w (w.alloc (.cells #[.int .i64 sd, .string ⟨⟨p⟩⟩, .int .i64 k, .slice A l.length c, .int .i64 fr, .int .i64 to] 27)) := (Below.refl _ _).alloc (Nat.le_refl _) _
  have b0 := Blk.new w 27 #[.int .i64 sd, .string ⟨⟨p⟩⟩, .int .i64 k, .slice A l.length c, .int .i64 fr, .int .i64 to]
  have HA := Lib.hid (h.below hb0)
  have HY := Lib.hid (hy.below hb0)
  have HLI := Lib.hid (lightW_any B d L _ (h.below hb0))
  obtain ⟨qb, hqb⟩ : ∃ qb, qb = w.heap.size := ⟨_, rfl⟩
  rw [← hqb] at b0
  clear h hy
  go_enter Tryz.func3, Tryz.ntmps3
  go_upto_region 1 with (fail)
  rw [← hqb]
  clear hqb
  generalize w.alloc (.cells #[.int .i64 sd, .string ⟨⟨p⟩⟩, .int .i64 k, .slice A l.length c, .int .i64 fr, .int .i64 to] 27) = w1 at *
  have HQ : Hid (∀ W, Below w1.heap.size w1 W → W.cell? ⟨qb, 0, none⟩ = some (.int .i64 sd) ∧ W.cell? ⟨qb, 1, none⟩ = some (.string ⟨⟨p⟩⟩) ∧ W.cell? ⟨qb, 2, none⟩ = some (.int .i64 k) ∧ W.cell? ⟨qb, 3, none⟩ = some (.slice A l.length c) ∧ W.cell? ⟨qb, 4, none⟩ = some (.int .i64 fr) ∧ W.cell? ⟨qb, 5, none⟩ = some (.int .i64 to)) := Lib.hid (fun W hW => ⟨(b0.below hW).cell 0, (b0.below hW).cell 1, (b0.below hW).cell 2, (b0.below hW).cell 3, (b0.below hW).cell 4, (b0.below hW).cell 5⟩)
  clear b0
  rcases hli : lightW L with _ | _
  · rw [hli] at HLI
    go_wp2_with fail
    refine HLI.out.mono ?_
    rintro e wl ⟨rfl, hbl⟩
    have hwl := hb0.trans (hbl.mono hb0.size)
    go_wp2_with fail
    refine (lives42_any _).mono ?_
    rintro e w9 ⟨rfl, hb9⟩
    go_wp2_with fail
    go_ret
    exact ⟨rfl, hwl.trans (hb9.mono hwl.size)⟩
  rw [hli] at HLI
  have hla := lightW_all hli
  clear hli
  go_wp2_with fail
  refine HLI.out.mono ?_
  rintro e wl ⟨rfl, hbl⟩
  have hwl := hb0.trans (hbl.mono hb0.size)
  obtain ⟨q0, q1, q2, q3, q4, q5⟩ := HQ.out wl hbl
  by_cases hp : 200 < (p.length : Int)
  · have hd : decide (200 < (p.length : Int)) = true := decide_eq_true hp
    go_wp2_with fail
    refine (lives42_any _).mono ?_
    rintro e w9 ⟨rfl, hb9⟩
    go_wp2_with fail
    go_ret
    exact ⟨rfl, hwl.trans (hb9.mono hwl.size)⟩
  have hd : decide (200 < (p.length : Int)) = false := decide_eq_false hp
  by_cases hl : 5000 < (l.length : Int)
  · have hd2 : decide (5000 < (l.length : Int)) = true := decide_eq_true hl
    go_wp2_with fail
    refine (lives42_any _).mono ?_
    rintro e w9 ⟨rfl, hb9⟩
    go_wp2_with fail
    go_ret
    exact ⟨rfl, hwl.trans (hb9.mono hwl.size)⟩
  have hd2 : decide (5000 < (l.length : Int)) = false := decide_eq_false hl
  have hlen := hla.1
  have hpl : p.length ≤ 1048576 := by omega
  go_wp2_with fail
  refine (made_any B d L wl (HA.out.below hbl) hla).mono ?_
  rintro e w2 ⟨gb, col, WA, wc, MS, rfl, hmd, hb2⟩
  have hw12 : Below w1.heap.size w1 w2 := hbl.trans (hb2.mono hbl.size)
  have hw2 := hwl.trans (hb2.mono hwl.size)
  have HLG := Lib.hid hmd.log
  have HMR := Lib.hid (show MosR w2 WA MS from ⟨hmd.row, hmd.its⟩)
  obtain ⟨PL, hPL⟩ : ∃ PL, PL = momS L := ⟨_, rfl⟩
  have hpll : PL.length ≤ 60 := by rw [hPL, mom_len]; exact hlen
  have HPM : Hid (MS.map MO.pl = PL) := Lib.hid (by rw [hPL]; exact hmd.pl.out)
  rw [← hPL] at HLG
  have hmsl : MS.length ≤ 60 := by rw [← mos_len HPM.out]; exact hpll
  have hHl : (PL.map (·.1)).length ≤ 300 := by rw [List.length_map]; omega
  obtain ⟨S, hS⟩ : ∃ S, S = sideS (PL.map (·.1)) (PL.map (·.2)) sd := ⟨_, rfl⟩
  obtain ⟨X, hX⟩ : ∃ X, X = atS S p m := ⟨_, rfl⟩
  have HAT1 := Lib.hid (fun W (hW : Below w2.heap.size w2 W) => logAt_any col gb _ _ sd p m W (HLG.out.below hW) hpl hHl)
  rw [← hS, ← hX] at HAT1
  obtain ⟨kr, Ar, cr, lr, har, hyr, hat2⟩ := refLeaf wc HMR.out sd p m hpl (by omega)
  have HAT2 := Lib.hid hat2
  have HYR := Lib.hid hyr
  have HXR : Hid (X = (kr, lr)) := Lib.hid (by rw [hX, hS, ← rowM_at HPM.out, har.out])
  clear hmd q0 q1 q2 q3 q4 q5 hX hat2 har hyr HLI hla hd hd2
  go_wp2_with fail
  refine wp_region_p [(0, true), (1, true), (2, true), (3, true), (4, true), (5, true), (6, true), (7, true), (8, true), (10, true), (11, true), (12, true), (13, true), (14, true), (15, true), (9, false), (16, false), (17, false), (18, true), (19, true)] (fun W => Below w2.heap.size w2 W) (by kernel_rfl) (by kernel_rfl) ?_
  simp only [List.map_cons, List.map_nil, List.filterMap_cons, List.filterMap_nil, List.getElem?_cons_zero, List.getElem?_cons_succ, List.length_cons, List.length_nil, Nat.zero_add, Nat.reduceAdd, List.drop_succ_cons, List.drop_zero]
  refine mx_move _ (by kernel_rfl) rfl ⟨_, (by ((try simp [go_sem]); (try rfl); done)), _, (by (simp only [Act.put, List.setIfInBounds_toArray, List.set_cons_zero, List.set_cons_succ]; rfl)), ?_⟩
  refine mx_val (by kernel_rfl) ⟨_, (by (intro w' hC; clear hC; (try go_simp); (try with_reducible rfl); done)), _, (by (simp only [Act.put, List.setIfInBounds_toArray, List.set_cons_zero, List.set_cons_succ]; rfl)), ?_⟩
  refine mx_move _ (by kernel_rfl) rfl ⟨_, (by ((try simp [go_sem]); (try rfl); done)), _, (by (simp only [Act.put, List.setIfInBounds_toArray, List.set_cons_zero, List.set_cons_succ]; rfl)), ?_⟩
  refine mx_move _ (by kernel_rfl) rfl ⟨_, (by ((try simp [go_sem]); (try rfl); done)), _, (by (simp only [Act.put, List.setIfInBounds_toArray, List.set_cons_zero, List.set_cons_succ]; rfl)), ?_⟩
  refine mx_val (by kernel_rfl) ⟨_, (by (intro w' hC; clear hC; (try go_simp); (try with_reducible rfl); done)), _, (by (simp only [Act.put, List.setIfInBounds_toArray, List.set_cons_zero, List.set_cons_succ]; rfl)), ?_⟩
  refine mx_val (by kernel_rfl) ⟨_, (by (intro w' hC; (obtain ⟨q0, q1, q2, q3, q4, q5⟩ := HQ.out _ (hw12.trans (hC.mono hw12.size))); clear hC; (try go_simp); (try with_reducible rfl); done)), _, (by (simp only [Act.put, List.setIfInBounds_toArray, List.set_cons_zero, List.set_cons_succ]; rfl)), ?_⟩
  refine mx_val (by kernel_rfl) ⟨_, (by (intro w' hC; clear hC; (try go_simp); (try with_reducible rfl); done)), _, (by (simp only [Act.put, List.setIfInBounds_toArray, List.set_cons_zero, List.set_cons_succ]; rfl)), ?_⟩
  refine mx_val (by kernel_rfl) ⟨_, (by (intro w' hC; (obtain ⟨q0, q1, q2, q3, q4, q5⟩ := HQ.out _ (hw12.trans (hC.mono hw12.size))); clear hC; (try go_simp); (try with_reducible rfl); done)), _, (by (simp only [Act.put, List.setIfInBounds_toArray, List.set_cons_zero, List.set_cons_succ]; rfl)), ?_⟩
  refine mx_move _ (by kernel_rfl) rfl ⟨_, (by ((try simp [go_sem]); (try rfl); done)), _, (by (simp only [Act.put, List.setIfInBounds_toArray, List.set_cons_zero, List.set_cons_succ]; rfl)), ?_⟩
  refine mx_move _ (by kernel_rfl) rfl ⟨_, (by ((try simp [go_sem]); (try rfl); done)), _, (by (simp only [Act.put, List.setIfInBounds_toArray, List.set_cons_zero, List.set_cons_succ]; rfl)), ?_⟩
  refine mx_val (by kernel_rfl) ⟨_, (by (intro w' hC; clear hC; (try go_simp); (try with_reducible rfl); done)), _, (by (simp only [Act.put, List.setIfInBounds_toArray, List.set_cons_zero, List.set_cons_succ]; rfl)), ?_⟩
  refine mx_val (by kernel_rfl) ⟨_, (by (intro w' hC; (obtain ⟨q0, q1, q2, q3, q4, q5⟩ := HQ.out _ (hw12.trans (hC.mono hw12.size))); clear hC; (try go_simp); (try with_reducible rfl); done)), _, (by (simp only [Act.put, List.setIfInBounds_toArray, List.set_cons_zero, List.set_cons_succ]; rfl)), ?_⟩
  refine mx_val (by kernel_rfl) ⟨_, (by (intro w' hC; clear hC; (try go_simp); (try with_reducible rfl); done)), _, (by (simp only [Act.put, List.setIfInBounds_toArray, List.set_cons_zero, List.set_cons_succ]; rfl)), ?_⟩
  refine mx_val (by kernel_rfl) ⟨_, (by (intro w' hC; (obtain ⟨q0, q1, q2, q3, q4, q5⟩ := HQ.out _ (hw12.trans (hC.mono hw12.size))); clear hC; (try go_simp); (try with_reducible rfl); done)), _, (by (simp only [Act.put, List.setIfInBounds_toArray, List.set_cons_zero, List.set_cons_succ]; rfl)), ?_⟩
  refine mx_move _ (by kernel_rfl) rfl ⟨_, (by ((try simp [go_sem]); (try rfl); done)), _, (by (simp only [Act.put, List.setIfInBounds_toArray, List.set_cons_zero, List.set_cons_succ]; rfl)), ?_⟩
  refine mx_call ((Below.refl _ _).drew) (by kernel_rfl) ?_ (HAT1.out _ (Below.refl _ _).drew) ?_
  · (go_simp; done)
  rintro e w3 ⟨⟨k3, A3, c3, l3, rfl, hx3, ho3, _⟩, hb_w3⟩
  have hlow1 : Below w2.heap.size w2 w3 := (Below.refl _ _).drew.trans (hb_w3.mono (Nat.le_refl _))
  refine ⟨_, rfl, _, (by (simp only [Act.put, List.setIfInBounds_toArray, List.set_cons_zero, List.set_cons_succ]; rfl)), ?_⟩
  refine mx_call (hlow1) (by kernel_rfl) ?_ (HAT2.out _ hlow1) ?_
  · (go_simp; done)
  rintro e w4 ⟨rfl, hb_w4⟩
  have hb4 : Below w2.heap.size w2 w4 := hlow1.trans (hb_w4.mono hlow1.size)
  have hsm : (k3 == kr && l3 == lr) = true := by
    show (((k3, l3) : LP) == (kr, lr)) = true
    rw [hx3.out, HXR.out]
    simp
  have HSM := Lib.hid (leafSameR_any k3 kr A3 Ar c3 cr l3 lr _ _ w4 (OwB.below ho3 hb_w4).rd (HYR.out.below hb4))
  rw [hsm] at HSM
  clear hsm hx3 ho3
  refine ⟨_, rfl, _, (by (simp only [Act.put, List.setIfInBounds_toArray, List.set_cons_zero, List.set_cons_succ]; rfl)), ?_⟩
  refine mx_call (hb4) (by kernel_rfl) ?_ (HSM.out) ?_
  · (go_simp; done)
  rintro e w5 ⟨rfl, hb_w5⟩
  have hlow5 : Below w2.heap.size w2 w5 := hb4.trans (hb_w5.mono hb4.size)
  refine ⟨_, rfl, _, (by (simp only [Act.put, List.setIfInBounds_toArray, List.set_cons_zero, List.set_cons_succ]; rfl)), ?_⟩
  refine mx_val (by kernel_rfl) ⟨_, (by (intro w' hC; clear hC; (try go_simp); (try with_reducible rfl); done)), _, (by (simp only [Act.put, List.setIfInBounds_toArray, List.set_cons_zero, List.set_cons_succ]; rfl)), ?_⟩
  refine mx_val (by kernel_rfl) ⟨_, (by (intro w' hC; clear hC; (try go_simp); (try with_reducible rfl); done)), _, (by (simp only [Act.put, List.setIfInBounds_toArray, List.set_cons_zero, List.set_cons_succ]; rfl)), ?_⟩
  refine mx_end hlow5 ?_
  have hw15 := hw12.trans (hlow5.mono hw12.size)
  have hw5 := hw2.trans (hlow5.mono hw2.size)
  have HHD := Lib.hid (fun W (hW : Below w5.heap.size w5 W) => held_any col gb _ _ sd p k A c l _ fr to W (HLG.out.below (hlow5.trans (hW.mono hlow5.size))) hpl hHl (HY.out.below (hw15.trans (hW.mono hw15.size))))
  have HRH := Lib.hid (fun W (hW : Below w5.heap.size w5 W) => refHeld_any WA wc MS sd p k A c l _ fr to W (HMR.out.below (hlow5.trans (hW.mono hlow5.size))) hpl (by omega) (HY.out.below (hw15.trans (hW.mono hw15.size))))
  have HCM := Lib.hid (fun W (hW : Below w5.heap.size w5 W) => common_any col gb _ _ p k A c l _ fr to W (HLG.out.below (hlow5.trans (hW.mono hlow5.size))) hpl hHl (HY.out.below (hw15.trans (hW.mono hw15.size))))
  have HRC := Lib.hid (fun W (hW : Below w5.heap.size w5 W) => refCommon_any WA wc MS p k A c l _ fr to W (HMR.out.below (hlow5.trans (hW.mono hlow5.size))) hpl (by omega) (HY.out.below (hw15.trans (hW.mono hw15.size))))
  rw [held_is HPM.out, ← hS] at HRH
  rw [← hS] at HHD
  rw [common_is HPM.out] at HRC
  obtain ⟨V1, hV1⟩ : ∃ V1, V1 = someG (isAt S p (k, l)) S.length fr to := ⟨_, rfl⟩
  obtain ⟨V2, hV2⟩ : ∃ V2, V2 = someG (bothAt (PL.map (·.1)) (PL.map (·.2)) p (k, l)) (PL.map (·.1)).length fr to := ⟨_, rfl⟩
  rw [← hV1] at HHD HRH
  rw [← hV2] at HCM HRC
  have f1 : (V1 != V1) = false := by simp
  have f2 : (V2 != V2) = false := by simp
  have hST : Hid ((List.range MS.length).filter (cameM MS sd p) = (turnsG 0 ((0, []) : LP) (S.map fun T => at0 T p)).map (·.1)) := Lib.hid (by rw [hS]; exact turns_is HPM.out sd p)
  have HT1 := Lib.hid (fun W (hW : Below w5.heap.size w5 W) => turns_any col gb _ _ sd p W (HLG.out.below (hlow5.trans (hW.mono hlow5.size))) hpl hHl)
  have HT2 := Lib.hid (fun W (hW : Below w5.heap.size w5 W) => refTurns_any WA wc MS sd p W (HMR.out.below (hlow5.trans (hW.mono hlow5.size))) hpl (by omega))
  rw [← hS] at HT1
  rw [hST.out] at HT2
  obtain ⟨G, hG⟩ : ∃ G, G = (turnsG 0 ((0, []) : LP) (S.map fun T => at0 T p)).map (·.1) := ⟨_, rfl⟩
  rw [← hG] at HT1 HT2
  have hGl : G.length ≤ 60 := by
    rw [hG, List.length_map]
    have h1 := turns_len (S.map fun T => at0 T p) 0 ((0, []) : LP)
    rw [List.length_map] at h1
    have h2 : S.length ≤ 60 := by rw [hS, side_len HPM.out]; split <;> omega
    omega
  clear hV1 hV2 hG hS hST HAT1 HAT2 HYR HXR HPM HSM hPL HMR HLG hHl hpll hmsl hb4
  go_wp2_with fail
  refine wp_region_b 48 (by kernel_rfl) (by kernel_rfl) ?_
  simp only [List.take_succ_cons, List.take_zero, List.drop_succ_cons, List.drop_zero]
  refine lb_move _ (by kernel_rfl) rfl ⟨_, (by ((try simp [go_sem]); (try rfl); done)), _, (by (simp only [Act.put, List.setIfInBounds_toArray, List.set_cons_zero, List.set_cons_succ]; rfl)), ?_⟩
  refine lb_val (by kernel_rfl) ⟨_, (by (intro w' hC; clear hC; (try go_simp); (try with_reducible rfl); done)), _, (by (simp only [Act.put, List.setIfInBounds_toArray, List.set_cons_zero, List.set_cons_succ]; rfl)), ?_⟩
  refine lb_val (by kernel_rfl) ⟨_, (by (intro w' hC; (obtain ⟨q0, q1, q2, q3, q4, q5⟩ := HQ.out _ (hw15.trans (hC.mono hw15.size))); clear hC; (try go_simp); (try with_reducible rfl); done)), _, (by (simp only [Act.put, List.setIfInBounds_toArray, List.set_cons_zero, List.set_cons_succ]; rfl)), ?_⟩
  refine lb_val (by kernel_rfl) ⟨_, (by (intro w' hC; clear hC; (try go_simp); (try with_reducible rfl); done)), _, (by (simp only [Act.put, List.setIfInBounds_toArray, List.set_cons_zero, List.set_cons_succ]; rfl)), ?_⟩
  refine lb_val (by kernel_rfl) ⟨_, (by (intro w' hC; (obtain ⟨q0, q1, q2, q3, q4, q5⟩ := HQ.out _ (hw15.trans (hC.mono hw15.size))); clear hC; (try go_simp); (try with_reducible rfl); done)), _, (by (simp only [Act.put, List.setIfInBounds_toArray, List.set_cons_zero, List.set_cons_succ]; rfl)), ?_⟩
  refine lb_val (by kernel_rfl) ⟨_, (by (intro w' hC; clear hC; (try go_simp); (try with_reducible rfl); done)), _, (by (simp only [Act.put, List.setIfInBounds_toArray, List.set_cons_zero, List.set_cons_succ]; rfl)), ?_⟩
  refine lb_val (by kernel_rfl) ⟨_, (by (intro w' hC; (obtain ⟨q0, q1, q2, q3, q4, q5⟩ := HQ.out _ (hw15.trans (hC.mono hw15.size))); clear hC; (try go_simp); (try with_reducible rfl); done)), _, (by (simp only [Act.put, List.setIfInBounds_toArray, List.set_cons_zero, List.set_cons_succ]; rfl)), ?_⟩
  refine lb_val (by kernel_rfl) ⟨_, (by (intro w' hC; clear hC; (try go_simp); (try with_reducible rfl); done)), _, (by (simp only [Act.put, List.setIfInBounds_toArray, List.set_cons_zero, List.set_cons_succ]; rfl)), ?_⟩
  refine lb_val (by kernel_rfl) ⟨_, (by (intro w' hC; (obtain ⟨q0, q1, q2, q3, q4, q5⟩ := HQ.out _ (hw15.trans (hC.mono hw15.size))); clear hC; (try go_simp); (try with_reducible rfl); done)), _, (by (simp only [Act.put, List.setIfInBounds_toArray, List.set_cons_zero, List.set_cons_succ]; rfl)), ?_⟩
  refine lb_val (by kernel_rfl) ⟨_, (by (intro w' hC; clear hC; (try go_simp); (try with_reducible rfl); done)), _, (by (simp only [Act.put, List.setIfInBounds_toArray, List.set_cons_zero, List.set_cons_succ]; rfl)), ?_⟩
  refine lb_val (by kernel_rfl) ⟨_, (by (intro w' hC; (obtain ⟨q0, q1, q2, q3, q4, q5⟩ := HQ.out _ (hw15.trans (hC.mono hw15.size))); clear hC; (try go_simp); (try with_reducible rfl); done)), _, (by (simp only [Act.put, List.setIfInBounds_toArray, List.set_cons_zero, List.set_cons_succ]; rfl)), ?_⟩
  refine lb_call (by kernel_rfl) (fun w' hC => HHD.out w' hC) (by (intro w'; go_simp; done)) ⟨_, (by (simp only [Act.put, List.setIfInBounds_toArray, List.set_cons_zero, List.set_cons_succ]; rfl)), ?_⟩
  refine lb_move _ (by kernel_rfl) rfl ⟨_, (by ((try simp [go_sem]); (try rfl); done)), _, (by (simp only [Act.put, List.setIfInBounds_toArray, List.set_cons_zero, List.set_cons_succ]; rfl)), ?_⟩
  refine lb_val (by kernel_rfl) ⟨_, (by (intro w' hC; clear hC; (try go_simp); (try with_reducible rfl); done)), _, (by (simp only [Act.put, List.setIfInBounds_toArray, List.set_cons_zero, List.set_cons_succ]; rfl)), ?_⟩
  refine lb_val (by kernel_rfl) ⟨_, (by (intro w' hC; (obtain ⟨q0, q1, q2, q3, q4, q5⟩ := HQ.out _ (hw15.trans (hC.mono hw15.size))); clear hC; (try go_simp); (try with_reducible rfl); done)), _, (by (simp only [Act.put, List.setIfInBounds_toArray, List.set_cons_zero, List.set_cons_succ]; rfl)), ?_⟩
  refine lb_val (by kernel_rfl) ⟨_, (by (intro w' hC; clear hC; (try go_simp); (try with_reducible rfl); done)), _, (by (simp only [Act.put, List.setIfInBounds_toArray, List.set_cons_zero, List.set_cons_succ]; rfl)), ?_⟩
  refine lb_val (by kernel_rfl) ⟨_, (by (intro w' hC; (obtain ⟨q0, q1, q2, q3, q4, q5⟩ := HQ.out _ (hw15.trans (hC.mono hw15.size))); clear hC; (try go_simp); (try with_reducible rfl); done)), _, (by (simp only [Act.put, List.setIfInBounds_toArray, List.set_cons_zero, List.set_cons_succ]; rfl)), ?_⟩
  refine lb_val (by kernel_rfl) ⟨_, (by (intro w' hC; clear hC; (try go_simp); (try with_reducible rfl); done)), _, (by (simp only [Act.put, List.setIfInBounds_toArray, List.set_cons_zero, List.set_cons_succ]; rfl)), ?_⟩
  refine lb_val (by kernel_rfl) ⟨_, (by (intro w' hC; (obtain ⟨q0, q1, q2, q3, q4, q5⟩ := HQ.out _ (hw15.trans (hC.mono hw15.size))); clear hC; (try go_simp); (try with_reducible rfl); done)), _, (by (simp only [Act.put, List.setIfInBounds_toArray, List.set_cons_zero, List.set_cons_succ]; rfl)), ?_⟩
  refine lb_val (by kernel_rfl) ⟨_, (by (intro w' hC; clear hC; (try go_simp); (try with_reducible rfl); done)), _, (by (simp only [Act.put, List.setIfInBounds_toArray, List.set_cons_zero, List.set_cons_succ]; rfl)), ?_⟩
  refine lb_val (by kernel_rfl) ⟨_, (by (intro w' hC; (obtain ⟨q0, q1, q2, q3, q4, q5⟩ := HQ.out _ (hw15.trans (hC.mono hw15.size))); clear hC; (try go_simp); (try with_reducible rfl); done)), _, (by (simp only [Act.put, List.setIfInBounds_toArray, List.set_cons_zero, List.set_cons_succ]; rfl)), ?_⟩
  refine lb_val (by kernel_rfl) ⟨_, (by (intro w' hC; clear hC; (try go_simp); (try with_reducible rfl); done)), _, (by (simp only [Act.put, List.setIfInBounds_toArray, List.set_cons_zero, List.set_cons_succ]; rfl)), ?_⟩
  refine lb_val (by kernel_rfl) ⟨_, (by (intro w' hC; (obtain ⟨q0, q1, q2, q3, q4, q5⟩ := HQ.out _ (hw15.trans (hC.mono hw15.size))); clear hC; (try go_simp); (try with_reducible rfl); done)), _, (by (simp only [Act.put, List.setIfInBounds_toArray, List.set_cons_zero, List.set_cons_succ]; rfl)), ?_⟩
  refine lb_call (by kernel_rfl) (fun w' hC => HRH.out w' hC) (by (intro w'; go_simp; done)) ⟨_, (by (simp only [Act.put, List.setIfInBounds_toArray, List.set_cons_zero, List.set_cons_succ]; rfl)), ?_⟩
  refine lb_val (by kernel_rfl) ⟨_, (by (intro w' hC; clear hC; (try go_simp); (try with_reducible rfl); done)), _, (by (simp only [Act.put, List.setIfInBounds_toArray, List.set_cons_zero, List.set_cons_succ]; rfl)), ?_⟩
  refine lb_move _ (by kernel_rfl) rfl ⟨_, (by ((try simp [go_sem]); (try rfl); done)), _, (by (simp only [Act.put, List.setIfInBounds_toArray, List.set_cons_zero, List.set_cons_succ]; rfl)), ?_⟩
  first | (refine lb_skip (by rfl) ⟨_, (by (simp only [Act.put, List.setIfInBounds_toArray, List.set_cons_zero, List.set_cons_succ]; rfl)), ?_⟩) | (refine lb_move _ (by kernel_rfl) rfl ⟨_, (by ((try simp [go_sem]); (try rfl); done)), _, (by (simp only [Act.put, List.setIfInBounds_toArray, List.set_cons_zero, List.set_cons_succ]; rfl)), ?_⟩)
  first | (refine lb_skip (by rfl) ⟨_, (by (simp only [Act.put, List.setIfInBounds_toArray, List.set_cons_zero, List.set_cons_succ]; rfl)), ?_⟩) | (refine lb_val (by kernel_rfl) ⟨_, (by (intro w' hC; clear hC; (try go_simp); (try with_reducible rfl); done)), _, (by (simp only [Act.put, List.setIfInBounds_toArray, List.set_cons_zero, List.set_cons_succ]; rfl)), ?_⟩)
  first | (refine lb_skip (by rfl) ⟨_, (by (simp only [Act.put, List.setIfInBounds_toArray, List.set_cons_zero, List.set_cons_succ]; rfl)), ?_⟩) | (refine lb_val (by kernel_rfl) ⟨_, (by (intro w' hC; (obtain ⟨q0, q1, q2, q3, q4, q5⟩ := HQ.out _ (hw15.trans (hC.mono hw15.size))); clear hC; (try go_simp); (try with_reducible rfl); done)), _, (by (simp only [Act.put, List.setIfInBounds_toArray, List.set_cons_zero, List.set_cons_succ]; rfl)), ?_⟩)
  first | (refine lb_skip (by rfl) ⟨_, (by (simp only [Act.put, List.setIfInBounds_toArray, List.set_cons_zero, List.set_cons_succ]; rfl)), ?_⟩) | (refine lb_val (by kernel_rfl) ⟨_, (by (intro w' hC; clear hC; (try go_simp); (try with_reducible rfl); done)), _, (by (simp only [Act.put, List.setIfInBounds_toArray, List.set_cons_zero, List.set_cons_succ]; rfl)), ?_⟩)
  first | (refine lb_skip (by rfl) ⟨_, (by (simp only [Act.put, List.setIfInBounds_toArray, List.set_cons_zero, List.set_cons_succ]; rfl)), ?_⟩) | (refine lb_val (by kernel_rfl) ⟨_, (by (intro w' hC; (obtain ⟨q0, q1, q2, q3, q4, q5⟩ := HQ.out _ (hw15.trans (hC.mono hw15.size))); clear hC; (try go_simp); (try with_reducible rfl); done)), _, (by (simp only [Act.put, List.setIfInBounds_toArray, List.set_cons_zero, List.set_cons_succ]; rfl)), ?_⟩)
  first | (refine lb_skip (by rfl) ⟨_, (by (simp only [Act.put, List.setIfInBounds_toArray, List.set_cons_zero, List.set_cons_succ]; rfl)), ?_⟩) | (refine lb_val (by kernel_rfl) ⟨_, (by (intro w' hC; clear hC; (try go_simp); (try with_reducible rfl); done)), _, (by (simp only [Act.put, List.setIfInBounds_toArray, List.set_cons_zero, List.set_cons_succ]; rfl)), ?_⟩)
  first | (refine lb_skip (by rfl) ⟨_, (by (simp only [Act.put, List.setIfInBounds_toArray, List.set_cons_zero, List.set_cons_succ]; rfl)), ?_⟩) | (refine lb_val (by kernel_rfl) ⟨_, (by (intro w' hC; (obtain ⟨q0, q1, q2, q3, q4, q5⟩ := HQ.out _ (hw15.trans (hC.mono hw15.size))); clear hC; (try go_simp); (try with_reducible rfl); done)), _, (by (simp only [Act.put, List.setIfInBounds_toArray, List.set_cons_zero, List.set_cons_succ]; rfl)), ?_⟩)
  first | (refine lb_skip (by rfl) ⟨_, (by (simp only [Act.put, List.setIfInBounds_toArray, List.set_cons_zero, List.set_cons_succ]; rfl)), ?_⟩) | (refine lb_val (by kernel_rfl) ⟨_, (by (intro w' hC; clear hC; (try go_simp); (try with_reducible rfl); done)), _, (by (simp only [Act.put, List.setIfInBounds_toArray, List.set_cons_zero, List.set_cons_succ]; rfl)), ?_⟩)
  first | (refine lb_skip (by rfl) ⟨_, (by (simp only [Act.put, List.setIfInBounds_toArray, List.set_cons_zero, List.set_cons_succ]; rfl)), ?_⟩) | (refine lb_val (by kernel_rfl) ⟨_, (by (intro w' hC; (obtain ⟨q0, q1, q2, q3, q4, q5⟩ := HQ.out _ (hw15.trans (hC.mono hw15.size))); clear hC; (try go_simp); (try with_reducible rfl); done)), _, (by (simp only [Act.put, List.setIfInBounds_toArray, List.set_cons_zero, List.set_cons_succ]; rfl)), ?_⟩)
  first | (refine lb_skip (by rfl) ⟨_, (by (simp only [Act.put, List.setIfInBounds_toArray, List.set_cons_zero, List.set_cons_succ]; rfl)), ?_⟩) | (refine lb_call (by kernel_rfl) (fun w' hC => HCM.out w' hC) (by (intro w'; go_simp; done)) ⟨_, (by (simp only [Act.put, List.setIfInBounds_toArray, List.set_cons_zero, List.set_cons_succ]; rfl)), ?_⟩)
  first | (refine lb_skip (by rfl) ⟨_, (by (simp only [Act.put, List.setIfInBounds_toArray, List.set_cons_zero, List.set_cons_succ]; rfl)), ?_⟩) | (refine lb_move _ (by kernel_rfl) rfl ⟨_, (by ((try simp [go_sem]); (try rfl); done)), _, (by (simp only [Act.put, List.setIfInBounds_toArray, List.set_cons_zero, List.set_cons_succ]; rfl)), ?_⟩)
  first | (refine lb_skip (by rfl) ⟨_, (by (simp only [Act.put, List.setIfInBounds_toArray, List.set_cons_zero, List.set_cons_succ]; rfl)), ?_⟩) | (refine lb_val (by kernel_rfl) ⟨_, (by (intro w' hC; clear hC; (try go_simp); (try with_reducible rfl); done)), _, (by (simp only [Act.put, List.setIfInBounds_toArray, List.set_cons_zero, List.set_cons_succ]; rfl)), ?_⟩)
  first | (refine lb_skip (by rfl) ⟨_, (by (simp only [Act.put, List.setIfInBounds_toArray, List.set_cons_zero, List.set_cons_succ]; rfl)), ?_⟩) | (refine lb_val (by kernel_rfl) ⟨_, (by (intro w' hC; (obtain ⟨q0, q1, q2, q3, q4, q5⟩ := HQ.out _ (hw15.trans (hC.mono hw15.size))); clear hC; (try go_simp); (try with_reducible rfl); done)), _, (by (simp only [Act.put, List.setIfInBounds_toArray, List.set_cons_zero, List.set_cons_succ]; rfl)), ?_⟩)
  first | (refine lb_skip (by rfl) ⟨_, (by (simp only [Act.put, List.setIfInBounds_toArray, List.set_cons_zero, List.set_cons_succ]; rfl)), ?_⟩) | (refine lb_val (by kernel_rfl) ⟨_, (by (intro w' hC; clear hC; (try go_simp); (try with_reducible rfl); done)), _, (by (simp only [Act.put, List.setIfInBounds_toArray, List.set_cons_zero, List.set_cons_succ]; rfl)), ?_⟩)
  first | (refine lb_skip (by rfl) ⟨_, (by (simp only [Act.put, List.setIfInBounds_toArray, List.set_cons_zero, List.set_cons_succ]; rfl)), ?_⟩) | (refine lb_val (by kernel_rfl) ⟨_, (by (intro w' hC; (obtain ⟨q0, q1, q2, q3, q4, q5⟩ := HQ.out _ (hw15.trans (hC.mono hw15.size))); clear hC; (try go_simp); (try with_reducible rfl); done)), _, (by (simp only [Act.put, List.setIfInBounds_toArray, List.set_cons_zero, List.set_cons_succ]; rfl)), ?_⟩)
  first | (refine lb_skip (by rfl) ⟨_, (by (simp only [Act.put, List.setIfInBounds_toArray, List.set_cons_zero, List.set_cons_succ]; rfl)), ?_⟩) | (refine lb_val (by kernel_rfl) ⟨_, (by (intro w' hC; clear hC; (try go_simp); (try with_reducible rfl); done)), _, (by (simp only [Act.put, List.setIfInBounds_toArray, List.set_cons_zero, List.set_cons_succ]; rfl)), ?_⟩)
  first | (refine lb_skip (by rfl) ⟨_, (by (simp only [Act.put, List.setIfInBounds_toArray, List.set_cons_zero, List.set_cons_succ]; rfl)), ?_⟩) | (refine lb_val (by kernel_rfl) ⟨_, (by (intro w' hC; (obtain ⟨q0, q1, q2, q3, q4, q5⟩ := HQ.out _ (hw15.trans (hC.mono hw15.size))); clear hC; (try go_simp); (try with_reducible rfl); done)), _, (by (simp only [Act.put, List.setIfInBounds_toArray, List.set_cons_zero, List.set_cons_succ]; rfl)), ?_⟩)
  first | (refine lb_skip (by rfl) ⟨_, (by (simp only [Act.put, List.setIfInBounds_toArray, List.set_cons_zero, List.set_cons_succ]; rfl)), ?_⟩) | (refine lb_val (by kernel_rfl) ⟨_, (by (intro w' hC; clear hC; (try go_simp); (try with_reducible rfl); done)), _, (by (simp only [Act.put, List.setIfInBounds_toArray, List.set_cons_zero, List.set_cons_succ]; rfl)), ?_⟩)
  first | (refine lb_skip (by rfl) ⟨_, (by (simp only [Act.put, List.setIfInBounds_toArray, List.set_cons_zero, List.set_cons_succ]; rfl)), ?_⟩) | (refine lb_val (by kernel_rfl) ⟨_, (by (intro w' hC; (obtain ⟨q0, q1, q2, q3, q4, q5⟩ := HQ.out _ (hw15.trans (hC.mono hw15.size))); clear hC; (try go_simp); (try with_reducible rfl); done)), _, (by (simp only [Act.put, List.setIfInBounds_toArray, List.set_cons_zero, List.set_cons_succ]; rfl)), ?_⟩)
  first | (refine lb_skip (by rfl) ⟨_, (by (simp only [Act.put, List.setIfInBounds_toArray, List.set_cons_zero, List.set_cons_succ]; rfl)), ?_⟩) | (refine lb_call (by kernel_rfl) (fun w' hC => HRC.out w' hC) (by (intro w'; go_simp; done)) ⟨_, (by (simp only [Act.put, List.setIfInBounds_toArray, List.set_cons_zero, List.set_cons_succ]; rfl)), ?_⟩)
  first | (refine lb_skip (by rfl) ⟨_, (by (simp only [Act.put, List.setIfInBounds_toArray, List.set_cons_zero, List.set_cons_succ]; rfl)), ?_⟩) | (refine lb_val (by kernel_rfl) ⟨_, (by (intro w' hC; clear hC; (try go_simp); (try with_reducible rfl); done)), _, (by (simp only [Act.put, List.setIfInBounds_toArray, List.set_cons_zero, List.set_cons_succ]; rfl)), ?_⟩)
  refine lb_val (by kernel_rfl) ⟨_, (by (intro w' hC; clear hC; (try go_simp); (try with_reducible rfl); done)), _, (by (simp only [Act.put, List.setIfInBounds_toArray, List.set_cons_zero, List.set_cons_succ]; rfl)), ?_⟩
  refine .nil ?_
  intro w6 hb6
  have hw16 := hw15.trans (hb6.mono hw15.size)
  have hw6 := hw5.trans (hb6.mono hw5.size)
  obtain ⟨q0, q1, q2, q3, q4, q5⟩ := HQ.out w6 hw16
  clear HHD HRH HCM HRC f1 f2
  go_wp2_with fail
  refine (HT1.out w6 hb6).mono ?_
  rintro e w7 ⟨⟨GA, gc, G1, rfl, hG1, hrow1⟩, hb7⟩
  obtain rfl := hG1.out
  have hb57 := hb6.trans (hb7.mono hb6.size)
  have hw17 := hw16.trans (hb7.mono hw16.size)
  have hw7 := hw6.trans (hb7.mono hw6.size)
  clear q0 q1 q2 q3 q4 q5
  obtain ⟨q0, q1, q2, q3, q4, q5⟩ := HQ.out w7 hw17
  go_wp2_with fail
  refine (HT2.out w7 hb57).mono ?_
  rintro e w8 ⟨⟨GB, gd, G2, rfl, hG2, hrow2⟩, hb8⟩
  obtain rfl := hG2.out
  have hw8 := hw7.trans (hb8.mono hw7.size)
  have HR1 := Lib.hid (hrow1.below hb8)
  have HR2 := Lib.hid hrow2
  have hne : ((G2.length : Int) != (G2.length : Int)) = false := by simp
  clear hrow1 hrow2 hG1 hG2 HT1 HT2 q0 q1 q2 q3 q4 q5
  go_wp2_with fail
  clear hne
  go_loopw [12, 123] (fun _ iv wr => ∃ i : Nat, i ≤ G2.length ∧ iv = .int .i64 (i : Int) ∧ Below w8.heap.size w8 wr) (fun _ iv _ => G2.length - (intOf iv).toNat)
  case atStart => exact ⟨0, Nat.zero_le _, rfl, Below.refl _ _⟩
  case round =>
    obtain ⟨i, hi, rfl, hbr⟩ := hrel
    by_cases hlt : i < G2.length
    · obtain ⟨b1, off1, rfl, _, hbb1, hc1⟩ := (HR1.out.below hbr).rd.atm (f := fun (n : Nat) => Value.int .i64 (n : Int)) (l := G2) (k := i) hlt
      obtain ⟨b2, off2, rfl, _, hbb2, hc2⟩ := (HR2.out.below hbr).rd.atm (f := fun (n : Nat) => Value.int .i64 (n : Int)) (l := G2) (k := i) hlt
      generalize G2[i] = gv at *
      have hnv : ((gv : Int) != (gv : Int)) = false := by simp
      go_wp2_with fail
      refine wp_region_b 9 (by kernel_rfl) (by kernel_rfl) ?_
      simp only [List.take_succ_cons, List.take_zero, List.drop_succ_cons, List.drop_zero]
      refine lb_move _ (by kernel_rfl) rfl ⟨_, (by ((try simp [go_sem]); (try rfl); done)), _, (by (simp only [Act.put, List.setIfInBounds_toArray, List.set_cons_zero, List.set_cons_succ]; rfl)), ?_⟩
      refine lb_move _ (by kernel_rfl) rfl ⟨_, (by ((try simp [go_sem]); (try rfl); done)), _, (by (simp only [Act.put, List.setIfInBounds_toArray, List.set_cons_zero, List.set_cons_succ]; rfl)), ?_⟩
      refine lb_val (by kernel_rfl) ⟨_, (by (intro w' hC; clear hC; (try go_simp); (try with_reducible rfl); done)), _, (by (simp only [Act.put, List.setIfInBounds_toArray, List.set_cons_zero, List.set_cons_succ]; rfl)), ?_⟩
      refine lb_val (by kernel_rfl) ⟨_, (by (intro w' hC; (have c0 := cellAt hC hbb1 hc1); clear hC; (try go_simp); (try with_reducible rfl); done)), _, (by (simp only [Act.put, List.setIfInBounds_toArray, List.set_cons_zero, List.set_cons_succ]; rfl)), ?_⟩
      refine lb_move _ (by kernel_rfl) rfl ⟨_, (by ((try simp [go_sem]); (try rfl); done)), _, (by (simp only [Act.put, List.setIfInBounds_toArray, List.set_cons_zero, List.set_cons_succ]; rfl)), ?_⟩
      refine lb_move _ (by kernel_rfl) rfl ⟨_, (by ((try simp [go_sem]); (try rfl); done)), _, (by (simp only [Act.put, List.setIfInBounds_toArray, List.set_cons_zero, List.set_cons_succ]; rfl)), ?_⟩
      refine lb_val (by kernel_rfl) ⟨_, (by (intro w' hC; clear hC; (try go_simp); (try with_reducible rfl); done)), _, (by (simp only [Act.put, List.setIfInBounds_toArray, List.set_cons_zero, List.set_cons_succ]; rfl)), ?_⟩
      refine lb_val (by kernel_rfl) ⟨_, (by (intro w' hC; (have c0 := cellAt hC hbb2 hc2); clear hC; (try go_simp); (try with_reducible rfl); done)), _, (by (simp only [Act.put, List.setIfInBounds_toArray, List.set_cons_zero, List.set_cons_succ]; rfl)), ?_⟩
      refine lb_val (by kernel_rfl) ⟨_, (by (intro w' hC; clear hC; (try go_simp); (try with_reducible rfl); done)), _, (by (simp only [Act.put, List.setIfInBounds_toArray, List.set_cons_zero, List.set_cons_succ]; rfl)), ?_⟩
      refine .nil ?_
      intro w9 hb9
      have hr9 := hbr.trans (hb9.mono hbr.size)
      clear hnv hc1 hc2
      go_wp2_with fail
      go_roundw
      case rel => exact ⟨i + 1, hlt, by go_num, hr9⟩
      case measure => simp [intOf]; omega
    · have e : i = G2.length := by omega
      subst e
      have hwr := hw8.trans (hbr.mono hw8.size)
      go_wp2_with fail
      refine (lives42_any _).mono ?_
      rintro e w9 ⟨rfl, hb9⟩
      go_wp2_with fail
      go_ret
      exact ⟨rfl, hwr.trans (hb9.mono hwr.size)⟩

end Go.Proofs.YtdnljmncdbcgeaaGreat

/- A book, plainly: which entry is spare, what Put answers and leaves. No program. -/
namespace Go.Proofs.YtdnljmncdbcgeaaGreat

/-- an entry, plainly: version, kind, bytes -/
abbrev EP := Int × Int × List UInt8
/-- the entry of nothing of the least version, the first of them -/
def spareB : List (List UInt8 × EP) → Option (List UInt8 × EP)
  | [] => none
  | x :: l => match spareB l with
    | none => if x.2.2.1 = 0 then some x else none
    | some y => if x.2.2.1 = 0 ∧ x.2.1 ≤ y.2.1 then some x else some y
/-- one is ahead of the other -/
def aheadB (x y : List UInt8 × EP) : Prop := x.2.1 < y.2.1 ∨ (x.2.1 = y.2.1 ∧ cmpT x.1 y.1 < 0)
theorem spareB_none : ∀ {T : List (List UInt8 × EP)}, spareB T = none → ∀ y ∈ T, y.2.2.1 ≠ 0
  | [], _, y, hy => by cases hy
  | x :: l, h, y, hy => by
    unfold spareB at h
    rcases hs : spareB l with _ | z
    · rw [hs] at h
      dsimp only at h
      split at h
      · cases h
      · rename_i hx
        rcases List.mem_cons.1 hy with rfl | hy
        · exact hx
        · exact spareB_none hs y hy
    · rw [hs] at h
      dsimp only at h
      split at h <;> cases h
theorem spareB_mem : ∀ {T : List (List UInt8 × EP)} {x : List UInt8 × EP}, spareB T = some x → x ∈ T ∧ x.2.2.1 = 0
  | [], _, h => by cases h
  | y :: l, x, h => by
    unfold spareB at h
    rcases hs : spareB l with _ | z
    · rw [hs] at h
      dsimp only at h
      split at h
      · rename_i hx
        injection h with h
        subst h
        exact ⟨List.mem_cons_self, hx⟩
      · cases h
    · rw [hs] at h
      dsimp only at h
      split at h
      · rename_i hx
        injection h with h
        subst h
        exact ⟨List.mem_cons_self, hx.1⟩
      · injection h with h
        subst h
        obtain ⟨h1, h2⟩ := spareB_mem hs
        exact ⟨List.mem_cons_of_mem _ h1, h2⟩
theorem spareB_least : ∀ {T : List (List UInt8 × EP)} {x : List UInt8 × EP}, SortR T → spareB T = some x → ∀ y ∈ T, y.2.2.1 = 0 → y = x ∨ aheadB x y
  | [], _, _, h, _, _, _ => by cases h
  | z :: l, x, hT, h, y, hy, h0 => by
    unfold SortR at hT
    rw [List.pairwise_cons] at hT
    unfold spareB at h
    rcases hs : spareB l with _ | q
    · rw [hs] at h
      dsimp only at h
      split at h
      · injection h with h
        subst h
        rcases List.mem_cons.1 hy with rfl | hy
        · exact .inl rfl
        · exact absurd h0 (spareB_none hs y hy)
      · cases h
    · rw [hs] at h
      dsimp only at h
      obtain ⟨hq, _⟩ := spareB_mem hs
      have ih := fun y hy h0 => spareB_least (x := q) hT.2 hs y hy h0
      split at h
      · rename_i hz
        injection h with h
        subst h
        rcases List.mem_cons.1 hy with rfl | hy
        · exact .inl rfl
        · refine .inr ?_
          have hzy := hT.1 y hy
          rcases ih y hy h0 with rfl | hh | ⟨e, _⟩
          · unfold aheadB
            by_cases e : z.2.1 = y.2.1
            · exact .inr ⟨e, hzy⟩
            · exact .inl (by omega)
          · exact .inl (by omega)
          · unfold aheadB
            by_cases e2 : z.2.1 = y.2.1
            · exact .inr ⟨e2, hzy⟩
            · exact .inl (by omega)
      · rename_i hz
        injection h with h
        subst h
        rcases List.mem_cons.1 hy with rfl | hy
        · refine .inr (.inl ?_)
          have : ¬ (y.2.1 ≤ q.2.1) := fun e => hz ⟨h0, e⟩
          omega
        · exact ih y hy h0
theorem spareB_snoc (x : List UInt8 × EP) : ∀ T : List (List UInt8 × EP), spareB (T ++ [x]) = match spareB T with
    | none => if x.2.2.1 = 0 then some x else none
    | some y => if x.2.2.1 = 0 ∧ x.2.1 < y.2.1 then some x else some y
  | [] => rfl
  | z :: T => by
    have ih := spareB_snoc x T
    rw [List.cons_append, spareB, spareB, ih]
    rcases spareB T with _ | q
    · dsimp only
      by_cases h1 : x.2.2.1 = 0
      · by_cases h2 : z.2.2.1 = 0
        · by_cases h3 : z.2.1 ≤ x.2.1
          · simp [h1, h2, h3, Int.not_lt.2 h3]
          · simp [h1, h2, h3, Int.not_le.1 h3]
        · simp [h1, h2]
      · by_cases h2 : z.2.2.1 = 0 <;> simp [h1, h2]
    · dsimp only
      by_cases h1 : x.2.2.1 = 0 ∧ x.2.1 < q.2.1
      · by_cases h2 : z.2.2.1 = 0
        · by_cases h3 : z.2.1 ≤ x.2.1
          · have h4 : z.2.1 ≤ q.2.1 := by omega
            simp [h1, h2, h3, h4, Int.not_lt.2 h3]
          · by_cases h4 : z.2.1 ≤ q.2.1
            · simp [h1, h2, h3, h4, Int.not_le.1 h3]
            · simp [h1, h2, h3, h4]
        · simp [h1, h2]
      · rw [if_neg h1]
        by_cases h2 : z.2.2.1 = 0 ∧ z.2.1 ≤ q.2.1
        · simp only [if_pos h2]
          have : ¬ (x.2.2.1 = 0 ∧ x.2.1 < z.2.1) := fun ⟨e1, e2⟩ => h1 ⟨e1, by omega⟩
          rw [if_neg this]
        · simp only [if_neg h2, if_neg h1]
theorem aheadB_asymm {x y : List UInt8 × EP} (h : aheadB x y) (k : aheadB y x) : False := by
  unfold aheadB at h k
  have := ordT.flip x.1 y.1
  omega
theorem aheadB_trans {x y z : List UInt8 × EP} (h : aheadB x y) (k : aheadB y z) : aheadB x z := by
  unfold aheadB at *
  rcases h with h | ⟨h1, h2⟩
  · rcases k with k | ⟨k1, _⟩
    · exact .inl (by omega)
    · exact .inl (by omega)
  · rcases k with k | ⟨k1, k2⟩
    · exact .inl (by omega)
    · exact .inr ⟨by omega, ordT.trans _ _ _ h2 k2⟩
theorem aheadB_total (x y : List UInt8 × EP) (h : x.1 ≠ y.1) : aheadB x y ∨ aheadB y x := by
  unfold aheadB
  have h1 := ordT.flip x.1 y.1
  have h2 := cmpT_eq x.1 y.1
  by_cases e : x.2.1 = y.2.1
  · by_cases e2 : cmpT x.1 y.1 < 0
    · exact .inl (.inr ⟨e, e2⟩)
    · have e3 : cmpT x.1 y.1 ≠ 0 := fun e => h (h2.1 e)
      exact .inr (.inr ⟨e.symm, by omega⟩)
  · by_cases e2 : x.2.1 < y.2.1
    · exact .inl (.inl e2)
    · exact .inr (.inl (by omega))
/-- the least one is the spare one -/
theorem spareB_of {T : List (List UInt8 × EP)} {x : List UInt8 × EP} (hT : SortR T) (hx : x ∈ T) (h0 : x.2.2.1 = 0) (hl : ∀ y ∈ T, y.2.2.1 = 0 → y = x ∨ aheadB x y) : spareB T = some x := by
  rcases hs : spareB T with _ | z
  · exact absurd h0 (spareB_none hs x hx)
  · obtain ⟨hz, hz0⟩ := spareB_mem hs
    rcases hl z hz hz0 with rfl | h1
    · rfl
    · rcases spareB_least hT hs x hx h0 with rfl | h2
      · rfl
      · exact (aheadB_asymm h1 h2).elim
/-- what Put answers, and what it leaves; chk: what Check says of the entry -/
def putB (T : List (List UInt8 × EP)) (p : List UInt8) (x : EP) (chk : Int) : List (List UInt8 × EP) × Int :=
  if chk ≠ 0 then (T, chk)
  else if x.1 ≤ ((getR T p).map (·.1)).getD 0 then (T, 31)
  else if (getR T p).isNone = true ∧ 256 ≤ T.length then
    (spareB T).elim (T, 24) fun y => (putR (withoutR T y.1) p x, 0)
  else (putR T p x, 0)
end Go.Proofs.YtdnljmncdbcgeaaGreat

/- The versions of entries: Version, is, Session, Count, and the document's Parts. -/
namespace Go.Proofs.YtdnljmncdbcgeaaGreat
open Go.RowKit Go.WideShapes Go.ChangeShapes Go.ChangeAt

/-- a good session and count -/
def goodV (s c : Int) : Bool := decide (1 ≤ s) && decide (s ≤ 1099511627776) && decide (1 ≤ c) && decide (c ≤ 1048575)
theorem goodV_iff {s c : Int} : goodV s c = true ↔ 1 ≤ s ∧ s ≤ 1099511627776 ∧ 1 ≤ c ∧ c ≤ 1048575 := by
  unfold goodV; simp [and_assoc]
theorem goodV_not {s c : Int} : goodV s c = false ↔ ¬ (1 ≤ s ∧ s ≤ 1099511627776 ∧ 1 ≤ c ∧ c ≤ 1048575) := by
  rw [← goodV_iff]; simp

theorem or_ver {s c : Int} (h1 : 0 ≤ s) (h2 : s ≤ 1099511627776) (h3 : 0 ≤ c) (h4 : c ≤ 1048575) : bits .or .u64 (s * 1048576) c = s * 1048576 + c := by
  obtain ⟨a, rfl⟩ := Int.eq_ofNat_of_zero_le h1
  obtain ⟨b, rfl⟩ := Int.eq_ofNat_of_zero_le h3
  rw [u64_or _ _ (by omega) (by omega) (by omega) (by omega)]
  have e : ((a : Int) * 1048576).toNat = a * 1048576 := by omega
  rw [e, Int.toNat_natCast, nat_join 20 (a * 1048576) b (by omega) (by omega)]
  omega

set_option maxHeartbeats 400000 in
theorem version_good (s c : Int) (w : World) (h : goodV s c = true) :
    Calls Tryz.prog 125 #[.int .u64 s, .int .u64 c] w fun e w' => e = .returned (.tuple #[.int .u64 (s * 1048576 + c), .int .i64 0]) ∧ w = w' := by
  obtain ⟨h1, h2, h3, h4⟩ := goodV_iff.1 h
  clear h
  go_enter Tryz.func125, Tryz.ntmps125
  go_wp2
  rw [or_ver (by omega) h2 (by omega) h4]
  go_ret2
  exact ⟨rfl, rfl⟩

set_option maxHeartbeats 400000 in
theorem version_bad (s c : Int) (w : World) (h : goodV s c = false) :
    Calls Tryz.prog 125 #[.int .u64 s, .int .u64 c] w fun e w' => e = .returned (.tuple #[.int .u64 0, .int .i64 2]) ∧ w = w' := by
  have hn := goodV_not.1 h
  clear h
  by_cases h1 : 1 ≤ s
  · by_cases h2 : s ≤ 1099511627776
    · by_cases h3 : 1 ≤ c
      · have h4 : ¬ c ≤ 1048575 := fun h4 => hn ⟨h1, h2, h3, h4⟩
        clear hn
        go_enter Tryz.func125, Tryz.ntmps125
        go_wp2
        go_ret2
        exact ⟨rfl, rfl⟩
      · clear hn
        go_enter Tryz.func125, Tryz.ntmps125
        go_wp2
        go_ret2
        exact ⟨rfl, rfl⟩
    · clear hn
      go_enter Tryz.func125, Tryz.ntmps125
      go_wp2
      go_ret2
      exact ⟨rfl, rfl⟩
  · clear hn
    go_enter Tryz.func125, Tryz.ntmps125
    go_wp2
    go_ret2
    exact ⟨rfl, rfl⟩

theorem and_cnt {v : Int} (h0 : 0 ≤ v) (h1 : v < 18446744073709551616) : bits .and .u64 v 1048575 = v % 1048576 :=
  bits_mask .u64 64 (by decide) (fun n a b => by simp [IntKind.wrap, IntKind.bits, IntKind.signed]; omega) 20 (by omega) v h0 h1

/-- is a number a version? -/
def isV (v : Int) : Bool := goodV (v / 1048576) (v % 1048576)


theorem isV_eq {v : Int} (_h : isV v = true) : v / 1048576 * 1048576 + v % 1048576 = v := by omega

set_option maxHeartbeats 400000 in
theorem is_any (v : Int) (w : World) (h0 : 0 ≤ v) (h1 : v < 18446744073709551616) :
    Calls Tryz.prog 95 #[.int .u64 v] w fun e w' => e = .returned (.bool (isV v)) ∧ w = w' := by
  have hm := and_cnt h0 h1
  cases hv : isV v
  · have HV := Lib.hid hv
    clear hv
    go_enter Tryz.func95, Tryz.ntmps95
    go_wp2_with (go_at_call 125; refine (version_bad _ _ _ HV.out).mono ?_; rintro e w' ⟨rfl, rfl⟩)
    go_ret
    exact ⟨rfl, rfl⟩
  · have he := isV_eq hv
    have HV := Lib.hid hv
    clear hv
    go_enter Tryz.func95, Tryz.ntmps95
    go_wp2_with (go_at_call 125; refine (version_good _ _ _ HV.out).mono ?_; rintro e w' ⟨rfl, rfl⟩)
    go_ret
    exact ⟨rfl, rfl⟩

def sessV (v : Int) : Int := if isV v then v / 1048576 else 0
def cntV (v : Int) : Int := if isV v then v % 1048576 else 0

set_option maxHeartbeats 400000 in
theorem parts_any (v : Int) (w : World) (h0 : 0 ≤ v) (h1 : v < 18446744073709551616) :
    Calls Tryz.prog 124 #[.int .u64 v] w fun e w' => e = .returned (.tuple #[.int .u64 (v / 1048576), .int .u64 (v % 1048576), .bool (isV v)]) ∧ w = w' := by
  have e1 : isV v = (decide (1 ≤ v / 1048576) && decide (v / 1048576 ≤ 1099511627776) && decide (1 ≤ v % 1048576)) := by
    unfold isV goodV
    rw [show decide (v % 1048576 ≤ 1048575) = true from by simp; omega, Bool.and_true]
  have E1 := Lib.hid e1
  clear e1
  go_enter Tryz.func124, Tryz.ntmps124
  go_wp2
  all_goals
    go_ret3
    exact ⟨ret3b (by rw [E1.out, Bool.eq_iff_iff]; simp; omega), rfl⟩

theorem wrap_u64 (n : Int) : IntKind.u64.wrap n = n % 18446744073709551616 := by simp [IntKind.wrap, IntKind.bits, IntKind.signed]

def verV (s c : Int) : Int := if goodV s c then s * 1048576 + c else 0
def verE (s c : Int) : Int := if goodV s c then 0 else 2

theorem version_any (s c : Int) (w : World) :
    Calls Tryz.prog 125 #[.int .u64 s, .int .u64 c] w fun e w' => e = .returned (.tuple #[.int .u64 (verV s c), .int .i64 (verE s c)]) ∧ w = w' := by
  cases hv : goodV s c
  · refine (version_bad s c w hv).mono ?_
    rintro e w' ⟨rfl, rfl⟩
    exact ⟨by unfold verV verE; rw [hv]; rfl, rfl⟩
  · refine (version_good s c w hv).mono ?_
    rintro e w' ⟨rfl, rfl⟩
    exact ⟨by unfold verV verE; rw [hv]; rfl, rfl⟩

theorem good_div {s c : Int} (h : goodV s c = true) : (s * 1048576 + c) / 1048576 = s ∧ (s * 1048576 + c) % 1048576 = c := by
  obtain ⟨h1, h2, h3, h4⟩ := goodV_iff.1 h
  omega
theorem good_isV {s c : Int} (h : goodV s c = true) : isV (s * 1048576 + c) = true := by
  unfold isV
  rw [(good_div h).1, (good_div h).2, h]
theorem good_sess {s c : Int} (h : goodV s c = true) : sessV (s * 1048576 + c) = s ∧ cntV (s * 1048576 + c) = c := by
  unfold sessV cntV
  rw [good_isV h, if_pos rfl, if_pos rfl]
  exact good_div h

end Go.Proofs.YtdnljmncdbcgeaaGreat

/- tenderref03: User. -/
namespace Go.Proofs.YtdnljmncdbcgeaaGreat
open Go.RowKit

theorem refUser_any (s : ByteArray) (hs : s.size ≤ 9223372036854775807) (w : World) : Calls Tryz.prog 123 #[.string s] w fun e w' => e = .returned (.bool (userB (tl s))) ∧ Below w.heap.size w w' := by
  have HG := Lib.hid (fun w => refGood_any s hs w)
  cases h : goodB (tl s)
  · have hr : userB (tl s) = false := by unfold userB; rw [h]; rfl
    rw [hr]
    rw [h] at HG
    clear hr h
    go_enter Tryz.func123, Tryz.ntmps123
    go_wp2_with fail
    refine (HG.out _).mono ?_
    rintro e w1 ⟨rfl, hb⟩
    go_wp2_with fail
    go_ret
    exact ⟨rfl, hb⟩
  · have h0 : 0 < s.size := by have := List.length_pos_iff.2 (goodB_ne h); rwa [tl_len] at this
    obtain ⟨R, hR⟩ : ∃ R, R = userB (tl s) := ⟨_, rfl⟩
    have HR : Hid (R = !((tl s).head? == some 126)) := by show _ = _; rw [hR]; unfold userB; rw [h]; rfl
    rw [← hR]
    rw [h] at HG
    clear hR h
    go_enter Tryz.func123, Tryz.ntmps123
    go_wp2_with fail
    refine (HG.out _).mono ?_
    rintro e w1 ⟨rfl, hb⟩
    go_wp2_with fail
    go_ret
    refine ⟨ret_b ?_, hb⟩
    rw [HR.out]
    have e : (tl s).head? = some s[0] := by
      obtain ⟨⟨l⟩⟩ := s
      cases l with
      | nil => exact (Nat.lt_irrefl 0 h0).elim
      | cons c l => rfl
    rw [e, Bool.eq_iff_iff]
    generalize s[0] = c
    by_cases hc : c = 126
    · subst hc; decide
    · have h2 : ¬ c.toNat = 126 := fun e => hc (UInt8.toNat_inj.1 e)
      simp [hc]
      omega
end Go.Proofs.YtdnljmncdbcgeaaGreat

/- entry and tenderref21: Check, Same, Newer, Row, Clone. -/
namespace Go.Proofs.YtdnljmncdbcgeaaGreat
open Go.RowKit

/-- an entry -/
structure EV where
  p : ByteArray
  v : Int
  k : Int
  x : BV
def EV.cells (o : EV) : List Value := [.string o.p, .int .u64 o.v, .int .i64 o.k, .slice o.x.A o.x.l.length o.x.c]
/-- what an answer to 'is an entry right?' is -/
def checkE (p : List UInt8) (v k : Int) (n : Nat) : Int := if userB p = false then 23 else if isV v = false then 2 else checkN k n

set_option maxRecDepth 100000 in
set_option maxHeartbeats 400000 in
theorem entryCheck_any (p : ByteArray) (v k : Int) (A : Option Addr) (n c : Nat) (w : World) (hp : p.size ≤ 9223372036854775807) (hv : 0 ≤ v ∧ v < 18446744073709551616) (hn : n ≤ 140737488355328) :
    Calls Tryz.prog 57 #[.agg #[.string p, .int .u64 v, .int .i64 k, .slice A n c]] w fun e w' => e = .returned (.int .i64 (checkE (tl p) v k n)) ∧ Below w.heap.size w w' := by
  obtain ⟨R, hR⟩ : ∃ R, R = checkE (tl p) v k n := ⟨_, rfl⟩
  rw [← hR]
  have HU := Lib.hid (fun w => user_any p hp w)
  have HV := Lib.hid (fun w => is_any v w hv.1 hv.2)
  have HL := Lib.hid (fun w => leafCheck_any k A n c w hn)
  cases hu : userB (tl p)
  · have HR : Hid (R = 23) := by show _ = _; rw [hR]; unfold checkE; rw [hu, if_pos rfl]
    rw [hu] at HU
    clear hR hu
    go_enter Tryz.func57, Tryz.ntmps57
    go_wp2_with fail
    refine (HU.out _).mono ?_
    rintro e w1 ⟨rfl, hb1⟩
    go_wp2_with fail
    go_ret
    exact ⟨ret_i HR.out.symm, ((Below.refl _ _).alloc (Nat.le_refl _) _).trans (hb1.mono (by simp))⟩
  · rw [hu] at HU
    have b0 := Blk.new w 59 #[.string p, .int .u64 v, .int .i64 k, .slice A n c]
    have hl : Below w.heap.size w (w.alloc (.cells #[.string p, .int .u64 v, .int .i64 k, .slice A n c] 59)) := (Below.refl _ _).alloc (Nat.le_refl _) _
    cases hvv : isV v
    · have HR : Hid (R = 2) := by show _ = _; rw [hR]; unfold checkE; rw [hu, hvv]; rfl
      rw [hvv] at HV
      clear hR hu hvv
      go_enter Tryz.func57, Tryz.ntmps57
      go_wp2_with fail
      generalize w.alloc (.cells #[.string p, .int .u64 v, .int .i64 k, .slice A n c] 59) = W at *
      have hs := hl.size
      refine (HU.out _).mono ?_
      rintro e w1 ⟨rfl, hb1⟩
      have b1 := b0.below hb1
      have c1 : w1.cell? ⟨w.heap.size, 1, none⟩ = some (.int .u64 v) := b1.cell 1
      go_wp2_with fail
      refine (HV.out _).mono ?_
      rintro e w2 ⟨rfl, rfl⟩
      go_wp2_with fail
      go_ret
      exact ⟨ret_i HR.out.symm, hl.trans (hb1.mono hs)⟩
    · have HR : Hid (R = checkN k n) := by show _ = _; rw [hR]; unfold checkE; rw [hu, hvv]; rfl
      rw [hvv] at HV
      rw [← HR.out] at HL
      clear hR hu hvv
      go_enter Tryz.func57, Tryz.ntmps57
      go_wp2_with fail
      generalize w.alloc (.cells #[.string p, .int .u64 v, .int .i64 k, .slice A n c] 59) = W at *
      have hs := hl.size
      refine (HU.out _).mono ?_
      rintro e w1 ⟨rfl, hb1⟩
      have b1 := b0.below hb1
      have c1 : w1.cell? ⟨w.heap.size, 1, none⟩ = some (.int .u64 v) := b1.cell 1
      have c2 : w1.cell? ⟨w.heap.size, 2, none⟩ = some (.int .i64 k) := b1.cell 2
      have c3 : w1.cell? ⟨w.heap.size, 3, none⟩ = some (.slice A n c) := b1.cell 3
      go_wp2_with fail
      refine (HV.out _).mono ?_
      rintro e w2 ⟨rfl, rfl⟩
      go_wp2_with fail
      refine (HL.out _).mono ?_
      rintro e w3 ⟨rfl, hb3⟩
      go_wp2_with fail
      go_ret
      exact ⟨rfl, hl.trans ((bthen hb1 hb3).mono hs)⟩

set_option maxRecDepth 100000 in
set_option maxHeartbeats 400000 in
theorem refEntryCheck_any (p : ByteArray) (v k : Int) (A : Option Addr) (n c : Nat) (w : World) (hp : p.size ≤ 9223372036854775807) (hv : 0 ≤ v ∧ v < 18446744073709551616) (hn : n ≤ 140737488355328) :
    Calls Tryz.prog 89 #[.agg #[.string p, .int .u64 v, .int .i64 k, .slice A n c]] w fun e w' => e = .returned (.int .i64 (checkE (tl p) v k n)) ∧ Below w.heap.size w w' := by
  obtain ⟨R, hR⟩ : ∃ R, R = checkE (tl p) v k n := ⟨_, rfl⟩
  rw [← hR]
  have HU := Lib.hid (fun w => refUser_any p hp w)
  have HV := Lib.hid (fun w => parts_any v w hv.1 hv.2)
  have HL := Lib.hid (fun w => leafCheckR_any k A n c w hn)
  cases hu : userB (tl p)
  · have HR : Hid (R = 23) := by show _ = _; rw [hR]; unfold checkE; rw [hu, if_pos rfl]
    rw [hu] at HU
    clear hR hu
    go_enter Tryz.func89, Tryz.ntmps89
    go_wp2_with fail
    refine (HU.out _).mono ?_
    rintro e w1 ⟨rfl, hb1⟩
    go_wp2_with fail
    go_ret
    exact ⟨ret_i HR.out.symm, ((Below.refl _ _).alloc (Nat.le_refl _) _).trans (hb1.mono (by simp))⟩
  · rw [hu] at HU
    have b0 := Blk.new w 59 #[.string p, .int .u64 v, .int .i64 k, .slice A n c]
    have hl : Below w.heap.size w (w.alloc (.cells #[.string p, .int .u64 v, .int .i64 k, .slice A n c] 59)) := (Below.refl _ _).alloc (Nat.le_refl _) _
    cases hvv : isV v
    · have HR : Hid (R = 2) := by show _ = _; rw [hR]; unfold checkE; rw [hu, hvv]; rfl
      rw [hvv] at HV
      clear hR hu hvv
      go_enter Tryz.func89, Tryz.ntmps89
      go_wp2_with fail
      generalize w.alloc (.cells #[.string p, .int .u64 v, .int .i64 k, .slice A n c] 59) = W at *
      have hs := hl.size
      refine (HU.out _).mono ?_
      rintro e w1 ⟨rfl, hb1⟩
      have b1 := b0.below hb1
      have c1 : w1.cell? ⟨w.heap.size, 1, none⟩ = some (.int .u64 v) := b1.cell 1
      go_wp2_with fail
      refine (HV.out _).mono ?_
      rintro e w2 ⟨rfl, rfl⟩
      go_wp2_with fail
      go_ret
      exact ⟨ret_i HR.out.symm, hl.trans (hb1.mono hs)⟩
    · have HR : Hid (R = checkN k n) := by show _ = _; rw [hR]; unfold checkE; rw [hu, hvv]; rfl
      rw [hvv] at HV
      rw [← HR.out] at HL
      clear hR hu hvv
      go_enter Tryz.func89, Tryz.ntmps89
      go_wp2_with fail
      generalize w.alloc (.cells #[.string p, .int .u64 v, .int .i64 k, .slice A n c] 59) = W at *
      have hs := hl.size
      refine (HU.out _).mono ?_
      rintro e w1 ⟨rfl, hb1⟩
      have b1 := b0.below hb1
      have c1 : w1.cell? ⟨w.heap.size, 1, none⟩ = some (.int .u64 v) := b1.cell 1
      have c2 : w1.cell? ⟨w.heap.size, 2, none⟩ = some (.int .i64 k) := b1.cell 2
      have c3 : w1.cell? ⟨w.heap.size, 3, none⟩ = some (.slice A n c) := b1.cell 3
      go_wp2_with fail
      refine (HV.out _).mono ?_
      rintro e w2 ⟨rfl, rfl⟩
      go_wp2_with fail
      refine (HL.out _).mono ?_
      rintro e w3 ⟨rfl, hb3⟩
      go_wp2_with fail
      go_ret
      exact ⟨rfl, hl.trans ((bthen hb1 hb3).mono hs)⟩
/-- are two the same? -/
def sameE (p q : List UInt8) (v u k j : Int) (l m : List UInt8) : Bool := p == q && v == u && (k == j && l == m)


set_option maxRecDepth 100000 in
set_option maxHeartbeats 400000 in
theorem entrySame_any (p q : ByteArray) (v u k j : Int) (A B : Option Addr) (c d : Nat) (l m : List UInt8) (Z Z' : Nat → Prop) (w : World) (hl : By w Z A l) (hm : By w Z' B m) :
    Calls Tryz.prog 78 #[.agg #[.string p, .int .u64 v, .int .i64 k, .slice A l.length c], .agg #[.string q, .int .u64 u, .int .i64 j, .slice B m.length d]] w fun e w' => e = .returned (.bool (sameE (tl p) (tl q) v u k j l m)) ∧ Below w.heap.size w w' := by
  obtain ⟨R, hR⟩ : ∃ R, R = sameE (tl p) (tl q) v u k j l m := ⟨_, rfl⟩
  rw [← hR]
  have hl2 := (hl.alloc (.cells #[.string p, .int .u64 v, .int .i64 k, .slice A l.length c] 59)).alloc (.cells #[.string q, .int .u64 u, .int .i64 j, .slice B m.length d] 59)
  have hm2 := (hm.alloc (.cells #[.string p, .int .u64 v, .int .i64 k, .slice A l.length c] 59)).alloc (.cells #[.string q, .int .u64 u, .int .i64 j, .slice B m.length d] 59)
  have HL := Lib.hid (leafSame_any k j A B c d l m Z Z' _ hl2 hm2)
  by_cases hpq : p = q
  · by_cases hvu : v = u
    · have HR : Hid (R = (k == j && l == m)) := by show _ = _; rw [hR]; unfold sameE; rw [hpq, hvu]; simp
      have e1 := eq_yes hpq
      have e2 : (v == u) = true := by simpa using hvu
      rw [← HR.out] at HL
      subst hvu
      clear hR hpq hl2 hm2
      go_enter Tryz.func78, Tryz.ntmps78
      go_wp2_with fail
      refine HL.out.mono ?_
      rintro e w1 ⟨rfl, hb1⟩
      go_wp2_with fail
      go_ret
      exact ⟨rfl, (((Below.refl _ _).alloc (Nat.le_refl _) _).alloc (by simp) _).trans (hb1.mono (by simp; omega))⟩
    · have HR : Hid (R = false) := by show _ = _; rw [hR]; unfold sameE; rw [show (v == u) = false by simpa using hvu]; simp
      have e1 := eq_yes hpq
      have e2 : (v == u) = false := by simpa using hvu
      clear hR hpq hl2 hm2 HL
      go_enter Tryz.func78, Tryz.ntmps78
      go_wp2_with fail
      go_ret
      exact ⟨ret_b HR.out.symm, (by repeat (first | exact Below.refl _ _ | refine Below.alloc ?_ (by simp) _ | refine Below.setCell ?_ (by simp) _ | refine Below.drew ?_))⟩
  · have HR : Hid (R = false) := by show _ = _; rw [hR]; unfold sameE; rw [show (tl p == tl q) = false by simp only [beq_eq_false_iff_ne, ne_eq]; exact fun e => hpq (tl_inj e)]; simp
    have e1 := eq_no hpq
    clear hR hpq hl2 hm2 HL
    go_enter Tryz.func78, Tryz.ntmps78
    go_wp2_with fail
    go_ret
    exact ⟨ret_b HR.out.symm, (by repeat (first | exact Below.refl _ _ | refine Below.alloc ?_ (by simp) _ | refine Below.setCell ?_ (by simp) _ | refine Below.drew ?_))⟩


set_option maxRecDepth 100000 in
set_option maxHeartbeats 400000 in
theorem refEntrySame_any (p q : ByteArray) (v u k j : Int) (A B : Option Addr) (c d : Nat) (l m : List UInt8) (Z Z' : Nat → Prop) (w : World) (hl : By w Z A l) (hm : By w Z' B m) :
    Calls Tryz.prog 75 #[.agg #[.string p, .int .u64 v, .int .i64 k, .slice A l.length c], .agg #[.string q, .int .u64 u, .int .i64 j, .slice B m.length d]] w fun e w' => e = .returned (.bool (sameE (tl p) (tl q) v u k j l m)) ∧ Below w.heap.size w w' := by
  obtain ⟨R, hR⟩ : ∃ R, R = sameE (tl p) (tl q) v u k j l m := ⟨_, rfl⟩
  rw [← hR]
  have hl2 := (hl.alloc (.cells #[.string p, .int .u64 v, .int .i64 k, .slice A l.length c] 59)).alloc (.cells #[.string q, .int .u64 u, .int .i64 j, .slice B m.length d] 59)
  have hm2 := (hm.alloc (.cells #[.string p, .int .u64 v, .int .i64 k, .slice A l.length c] 59)).alloc (.cells #[.string q, .int .u64 u, .int .i64 j, .slice B m.length d] 59)
  have HL := Lib.hid (leafSameR_any k j A B c d l m Z Z' _ hl2 hm2)
  by_cases hpq : p = q
  · by_cases hvu : v = u
    · have HR : Hid (R = (k == j && l == m)) := by show _ = _; rw [hR]; unfold sameE; rw [hpq, hvu]; simp
      have e1 := eq_yes hpq
      have e2 : (v == u) = true := by simpa using hvu
      rw [← HR.out] at HL
      subst hvu
      clear hR hpq hl2 hm2
      go_enter Tryz.func75, Tryz.ntmps75
      go_wp2_with fail
      refine HL.out.mono ?_
      rintro e w1 ⟨rfl, hb1⟩
      go_wp2_with fail
      go_ret
      exact ⟨rfl, (((Below.refl _ _).alloc (Nat.le_refl _) _).alloc (by simp) _).trans (hb1.mono (by simp; omega))⟩
    · have HR : Hid (R = false) := by show _ = _; rw [hR]; unfold sameE; rw [show (v == u) = false by simpa using hvu]; simp
      have e1 := eq_yes hpq
      have e2 : (v == u) = false := by simpa using hvu
      clear hR hpq hl2 hm2 HL
      go_enter Tryz.func75, Tryz.ntmps75
      go_wp2_with fail
      go_ret
      exact ⟨ret_b HR.out.symm, (by repeat (first | exact Below.refl _ _ | refine Below.alloc ?_ (by simp) _ | refine Below.setCell ?_ (by simp) _ | refine Below.drew ?_))⟩
  · have HR : Hid (R = false) := by show _ = _; rw [hR]; unfold sameE; rw [show (tl p == tl q) = false by simp only [beq_eq_false_iff_ne, ne_eq]; exact fun e => hpq (tl_inj e)]; simp
    have e1 := eq_no hpq
    clear hR hpq hl2 hm2 HL
    go_enter Tryz.func75, Tryz.ntmps75
    go_wp2_with fail
    go_ret
    exact ⟨ret_b HR.out.symm, (by repeat (first | exact Below.refl _ _ | refine Below.alloc ?_ (by simp) _ | refine Below.setCell ?_ (by simp) _ | refine Below.drew ?_))⟩

set_option maxRecDepth 100000 in
theorem entryNewer_any (p q : ByteArray) (v u k j : Int) (x y : Value) (w : World) :
    Calls Tryz.prog 59 #[.agg #[.string p, .int .u64 v, .int .i64 k, x], .agg #[.string q, .int .u64 u, .int .i64 j, y]] w fun e w' => e = .returned (.bool (decide (u < v))) ∧ Below w.heap.size w w' := by
  go_enter Tryz.func59, Tryz.ntmps59
  go_wp2_with fail
  go_ret
  exact ⟨rfl, (by repeat (first | exact Below.refl _ _ | refine Below.alloc ?_ (by simp) _ | refine Below.setCell ?_ (by simp) _ | refine Below.drew ?_))⟩
end Go.Proofs.YtdnljmncdbcgeaaGreat

/- tenderlaw21: Light. -/
namespace Go.Proofs.YtdnljmncdbcgeaaGreat
open Go.RowKit

/-- what is known of an entry -/
structure EV.ok (w : World) (Z : Nat → Prop) (o : EV) : Prop where
  x : o.x.ok w Z
  len : o.x.l.length ≤ 140737488355328
  p : o.p.size ≤ 140737488355328
  v : 0 ≤ o.v ∧ o.v < 18446744073709551616
  k : -9223372036854775808 ≤ o.k ∧ o.k < 9223372036854775808
theorem EV.ok.fr {w w' : World} {Z S : Nat → Prop} {o : EV} (h : o.ok w Z) (k : Fr S w w') (hs : ∀ b, b < w.heap.size → Z b → ¬ S b) : o.ok w' Z := ⟨h.x.fr k hs, h.len, h.p, h.v, h.k⟩
theorem EV.ok.below {w w' : World} {Z : Nat → Prop} {o : EV} (h : o.ok w Z) (k : Below w.heap.size w w') : o.ok w' Z := h.fr (Fr.of_below k (fun _ => False)) (fun _ _ _ h => h)
theorem EV.ok.mono {w : World} {Z Z' : Nat → Prop} {o : EV} (h : o.ok w Z) (hz : ∀ b, b < w.heap.size → Z b → Z' b) : o.ok w Z' := ⟨h.x.mono hz, h.len, h.p, h.v, h.k⟩
/-- entries in a slice -/
structure Ents (w : World) (Z : Nat → Prop) (A : Option Addr) (l : List EV) : Prop where
  rd : Rd w Z 4 A l.length (l.flatMap EV.cells)
  ok : ∀ o ∈ l, o.ok w Z
  len : l.length ≤ 140737488355328
theorem Ents.fr {w w' : World} {Z S : Nat → Prop} {A : Option Addr} {l : List EV} (h : Ents w Z A l) (k : Fr S w w') (hs : ∀ b, b < w.heap.size → Z b → ¬ S b) : Ents w' Z A l :=
  ⟨h.rd.fr k hs, fun o ho => (h.ok o ho).fr k hs, h.len⟩
theorem Ents.below {w w' : World} {Z : Nat → Prop} {A : Option Addr} {l : List EV} (h : Ents w Z A l) (k : Below w.heap.size w w') : Ents w' Z A l := h.fr (Fr.of_below k (fun _ => False)) (fun _ _ _ h => h)
theorem ent_at {w : World} {Z : Nat → Prop} {A : Option Addr} {l : List EV} {i : Nat} (h : Rd w Z 4 A l.length (l.flatMap EV.cells)) (hi : i < l.length) :
    ∃ b off, A = some ⟨b, off, none⟩ ∧ Z b ∧ b < w.heap.size ∧ w.cell? ⟨b, off + i * 4, none⟩ = some (.string l[i].p) ∧ w.cell? ⟨b, off + i * 4 + 1, none⟩ = some (.int .u64 l[i].v) ∧
      w.cell? ⟨b, off + i * 4 + 2, none⟩ = some (.int .i64 l[i].k) ∧ w.cell? ⟨b, off + i * 4 + 3, none⟩ = some (.slice l[i].x.A l[i].x.l.length l[i].x.c) := by
  obtain ⟨b, off, hA, hz, hb, hc⟩ := h.2 (by omega)
  have hg : ∀ j, j < 4 → (l.flatMap EV.cells)[i * 4 + j]? = (EV.cells l[i])[j]? := fun j hj => flat_get (k := 4) (fun _ => rfl) l i j hi hj
  refine ⟨b, off, hA, hz, hb, ?_, ?_, ?_, ?_⟩
  · exact hc _ _ (hg 0 (by omega))
  · rw [Nat.add_assoc]; exact hc _ _ (hg 1 (by omega))
  · rw [Nat.add_assoc]; exact hc _ _ (hg 2 (by omega))
  · rw [Nat.add_assoc]; exact hc _ _ (hg 3 (by omega))
def lenE (o : EV) : Nat := o.p.size + o.x.l.length
def lensE (l : List EV) : Nat := (l.map lenE).sum
def lightE (l : List EV) : Bool := decide (lensE l ≤ 20000) && decide (l.length ≤ 400)
theorem lensE_take (l : List EV) (i : Nat) (hi : i < l.length) : lensE (l.take (i + 1)) = lensE (l.take i) + lenE l[i] := by
  unfold lensE
  rw [List.take_succ_eq_append_getElem hi, List.map_append, List.sum_append]
  simp
theorem lensE_le (K : Nat) : ∀ (l : List EV), (∀ o ∈ l, lenE o ≤ K) → lensE l ≤ l.length * K
  | [], _ => by simp [lensE]
  | o :: l, h => by
    have h1 := h o (by simp)
    have h2 := lensE_le K l (fun o ho => h o (by simp [ho]))
    simp only [lensE, List.map_cons, List.sum_cons, List.length_cons, Nat.add_mul] at h2 ⊢
    omega
theorem lensE_take_le (K : Nat) (l : List EV) (i : Nat) (h : ∀ o ∈ l, lenE o ≤ K) : lensE (l.take i) ≤ i * K := by
  have h1 := lensE_le K (l.take i) (fun o ho => h o (List.mem_of_mem_take ho))
  have h2 : (l.take i).length ≤ i := List.length_take_le _ _
  have h3 : (l.take i).length * K ≤ i * K := Nat.mul_le_mul_right _ h2
  omega
/-- the sum that Light has made: right while few have been seen -/
def SeenE (l : List EV) (i : Nat) (s : Int) : Prop := i ≤ 400 → s = (lensE (l.take i) : Int)
theorem seenE_step {l : List EV} {i : Nat} {s : Int} (hs : SeenE l i s) (hi : i < l.length) (h : ∀ o ∈ l, lenE o ≤ 281474976710656) : SeenE l (i + 1) (wrap64 (s + (lenE l[i] : Int))) := by
  intro hi2
  have e := hs (by omega)
  have h1 := lensE_take_le 281474976710656 l (i + 1) h
  have h2 := lensE_take l i hi
  have h3 : (i + 1) * 281474976710656 ≤ 401 * 281474976710656 := Nat.mul_le_mul_right _ (by omega)
  rw [h2] at h1 ⊢
  rw [e, IntWalk.wrap64_in _ ⟨by omega, by omega⟩]
  omega

set_option maxRecDepth 100000 in
set_option maxHeartbeats 400000 in
theorem lightE_any (A : Option Addr) (c : Nat) (l : List EV) (Z : Nat → Prop) (w : World) (h : Ents w Z A l) :
    Calls Tryz.prog 18 #[.slice A l.length c] w fun e w' => e = .returned (.bool (lightE l)) ∧ Below w.heap.size w w' := by
  have hlen := h.len
  go_enter Tryz.func18, Tryz.ntmps18
  go_wp2_with fail
  go_loopw [3, 8] (fun sv iv wr => ∃ (i : Nat) (s : Int), i ≤ l.length ∧ iv = .int .i64 (i : Int) ∧ sv = .int .i64 s ∧ SeenE l i s ∧ Below w.heap.size w wr) (fun _ iv _ => l.length - (intOf iv).toNat)
  case atStart => exact ⟨0, 0, Nat.zero_le _, rfl, rfl, by intro _; simp [lensE], Below.refl _ _⟩
  case round =>
    obtain ⟨i, s, hi, rfl, rfl, hs, hb⟩ := hrel
    by_cases hlt : i < l.length
    · obtain ⟨b, off, rfl, hz, hbb, hc0, hc1, hc2, hc3⟩ := ent_at (h.rd.below hb) hlt
      have hsz := hb.size
      have hok := h.ok _ (List.getElem_mem hlt)
      have hxl := hok.len
      have hpl := hok.p
      have hst := Lib.hid (seenE_step hs hlt (fun o ho => by have h1 := (h.ok o ho).len; have h2 := (h.ok o ho).p; unfold lenE; omega))
      have hle : lenE l[i] = l[i].p.size + l[i].x.l.length := rfl
      rw [hle] at hst
      clear hle hok
      generalize l[i] = o at *
      obtain ⟨p, v, k, xA, xc, xl⟩ := o
      dsimp only at *
      go_wp2_with fail
      go_roundw
      case rel => exact ⟨i + 1, _, hlt, by go_num, rfl, by have := hst.out; push_cast at this; exact this, (hb.alloc hsz _)⟩
      case measure => simp [intOf]; omega
    · have e : i = l.length := by omega
      subst e
      by_cases h2 : l.length ≤ 400
      · have hss := hs h2
        rw [List.take_length] at hss
        subst hss
        go_wp2
        all_goals
          go_ret
          exact ⟨ret_b (by unfold lightE; rw [Bool.eq_iff_iff]; simp; omega), hb⟩
      · go_wp2
        all_goals
          go_ret
          exact ⟨ret_b (by unfold lightE; rw [Bool.eq_iff_iff]; simp; omega), hb⟩
end Go.Proofs.YtdnljmncdbcgeaaGreat

/- entry.Row, Clone. -/
namespace Go.Proofs.YtdnljmncdbcgeaaGreat
open Go.RowKit

/-- an entry's row as a value -/
abbrev rowV (p : ByteArray) (k v : Int) (n : Nat) : Value := .agg #[.string p, .int .i64 k, .int .u64 v, .int .u64 0, .int .i64 n]

set_option maxRecDepth 100000 in
set_option maxHeartbeats 1000000 in
theorem entryClone_any (p : ByteArray) (v k : Int) (A : Option Addr) (c : Nat) (l : List UInt8) (Z : Nat → Prop) (w : World) (h : By w Z A l) (hlen : l.length ≤ 140737488355328) :
    Calls Tryz.prog 61 #[.agg #[.string p, .int .u64 v, .int .i64 k, .slice A l.length c]] w fun e w' => ∃ (A' : Option Addr) (c' : Nat) (l' : List UInt8), e = .returned (.agg #[.string p, .int .u64 v, .int .i64 k, .slice A' l'.length c']) ∧ Hid (l' = l) ∧ OwB w' w.heap.size (.slice A' l'.length c') l' ∧ Below w.heap.size w w' := by
  have b0 := (Blk.new w 59 #[.string p, .int .u64 v, .int .i64 k, .slice A l.length c]).alloc (.cells #[.string ⟨#[]⟩, .int .u64 0, .int .i64 0, .slice none 0 0] 59)
  have b1 := Blk.new (w.alloc (.cells #[.string p, .int .u64 v, .int .i64 k, .slice A l.length c] 59)) 59 #[.string ⟨#[]⟩, .int .u64 0, .int .i64 0, .slice none 0 0]
  rw [World.size_alloc] at b1
  have hw : Below w.heap.size w ((w.alloc (.cells #[.string p, .int .u64 v, .int .i64 k, .slice A l.length c] 59)).alloc (.cells #[.string ⟨#[]⟩, .int .u64 0, .int .i64 0, .slice none 0 0] 59)) := (by repeat (first | exact Below.refl _ _ | refine Below.alloc ?_ (by simp) _ | refine Below.setCell ?_ (by simp) _ | refine Below.drew ?_))
  have hy := (h.alloc (.cells #[.string p, .int .u64 v, .int .i64 k, .slice A l.length c] 59)).alloc (.cells #[.string ⟨#[]⟩, .int .u64 0, .int .i64 0, .slice none 0 0] 59)
  have hz : ((w.alloc (.cells #[.string p, .int .u64 v, .int .i64 k, .slice A l.length c] 59)).alloc (.cells #[.string ⟨#[]⟩, .int .u64 0, .int .i64 0, .slice none 0 0] 59)).heap.size = w.heap.size + 2 := by simp
  go_enter Tryz.func61, Tryz.ntmps61
  go_wp2_with fail
  generalize (w.alloc (.cells #[.string p, .int .u64 v, .int .i64 k, .slice A l.length c] 59)).alloc (.cells #[.string ⟨#[]⟩, .int .u64 0, .int .i64 0, .slice none 0 0] 59) = W at *
  have hs := hw.size
  refine (leafClone_any k A c l Z W hy hlen).mono ?_
  rintro e w1 ⟨A', c', l', rfl, hl', ho, hb⟩
  have hb0 := b0.below hb
  have hb1 := b1.below hb
  have hlow : Below w.heap.size w w1 := hw.trans (hb.mono hs)
  have hsw1 := hb.size
  have g0 : w1.cell? ⟨w.heap.size, 0, none⟩ = some (.string p) := hb0.cell 0
  have g1 : w1.cell? ⟨w.heap.size, 1, none⟩ = some (.int .u64 v) := hb0.cell 1
  have g2 : w1.cell? ⟨w.heap.size, 2, none⟩ = some (.int .i64 k) := hb0.cell 2
  have g3 : w1.cell? ⟨w.heap.size, 3, none⟩ = some (.slice A l.length c) := hb0.cell 3
  have f2 := hb0.frozen 2
  have f3 := hb0.frozen 3
  have hb2 := (hb0.set_ 2 (.int .i64 k)).set_ 3 (.slice A' l'.length c')
  have hf2 : Fr (fun x => x = w.heap.size) w1 ((w1.setCell ⟨w.heap.size, 2, none⟩ (.int .i64 k)).setCell ⟨w.heap.size, 3, none⟩ (.slice A' l'.length c')) := ((Fr.refl (fun x => x = w.heap.size) w1).setAt _ 2 rfl _).setAt _ 3 rfl _
  have k0 : w1.cell? ⟨w.heap.size + 1, 0, none⟩ = some (.string ⟨#[]⟩) := hb1.cell 0
  have k1 : w1.cell? ⟨w.heap.size + 1, 1, none⟩ = some (.int .u64 0) := hb1.cell 1
  have k2 : w1.cell? ⟨w.heap.size + 1, 2, none⟩ = some (.int .i64 0) := hb1.cell 2
  have k3 : w1.cell? ⟨w.heap.size + 1, 3, none⟩ = some (.slice none 0 0) := hb1.cell 3
  have m0 := hb1.frozen 0
  have m1 := hb1.frozen 1
  have m2 := hb1.frozen 2
  have m3 := hb1.frozen 3
  go_wp2_with fail
  have hb12 := (((((hb1.far (p := ⟨w.heap.size, 2, none⟩) (by simp) (.int .i64 k)).far (p := ⟨w.heap.size, 3, none⟩) (by simp) (.slice A' l'.length c')).set_ 0 (.string p)).set_ 1 (.int .u64 v)).set_ 2 (.int .i64 k)).set_ 3 (.slice A' l'.length c')
  have hf3 : Fr (fun x => x = w.heap.size ∨ x = w.heap.size + 1) w1 ((((((w1.setCell ⟨w.heap.size, 2, none⟩ (.int .i64 k)).setCell ⟨w.heap.size, 3, none⟩ (.slice A' l'.length c')).setCell ⟨w.heap.size + 1, 0, none⟩ (.string p)).setCell ⟨w.heap.size + 1, 1, none⟩ (.int .u64 v)).setCell ⟨w.heap.size + 1, 2, none⟩ (.int .i64 k)).setCell ⟨w.heap.size + 1, 3, none⟩ (.slice A' l'.length c')) :=
    ((((((Fr.refl (fun x => x = w.heap.size ∨ x = w.heap.size + 1) w1).setAt _ 2 (.inl rfl) _).setAt _ 3 (.inl rfl) _).setAt _ 0 (.inr rfl) _).setAt _ 1 (.inr rfl) _).setAt _ 2 (.inr rfl) _).setAt _ 3 (.inr rfl) _
  have ho2 := ho.fr hf3 (fun g hg e => by have := (ho.lt g hg).1; omega)
  have hlow2 := hlow.trans (hf3.below (B := w.heap.size) (by omega) (by intro k hk e; omega))
  have d0 := hb12.cell 0
  have d1 := hb12.cell 1
  have d2 := hb12.cell 2
  have d3 := hb12.cell 3
  simp at d0 d1 d2 d3
  clear hb12 hf3 hf2 hb2
  generalize (((((w1.setCell ⟨w.heap.size, 2, none⟩ (.int .i64 k)).setCell ⟨w.heap.size, 3, none⟩ (.slice A' l'.length c')).setCell ⟨w.heap.size + 1, 0, none⟩ (.string p)).setCell ⟨w.heap.size + 1, 1, none⟩ (.int .u64 v)).setCell ⟨w.heap.size + 1, 2, none⟩ (.int .i64 k)).setCell ⟨w.heap.size + 1, 3, none⟩ (.slice A' l'.length c') = V at *
  refine bodyPost_ret (v := .agg #[.string p, .int .u64 v, .int .i64 k, .slice A' l'.length c']) (by simp [results, Tryz.results61, go_sem, d0, d1, d2, d3]) rfl ?_
  exact ⟨A', c', l', rfl, hl', own_base ho2 (fun g hg => Nat.le_trans hs (ho.lt _ hg).1), hlow2⟩
end Go.Proofs.YtdnljmncdbcgeaaGreat

/- book.Book in memory; what only tells: Session, Len, get. -/
namespace Go.Proofs.YtdnljmncdbcgeaaGreat
open Go.RowKit

def EV.val (o : EV) : Value := .agg #[.string o.p, .int .u64 o.v, .int .i64 o.k, .slice o.x.A o.x.l.length o.x.c]
def mapB (L : List (List UInt8 × EV)) : List (List UInt8 × Value) := L.map fun x => (x.1, x.2.val)
theorem get_mapB (L : List (List UInt8 × EV)) (p : List UInt8) : getR (mapB L) p = (getR L p).map EV.val := getR_map EV.val L p
theorem mapB_len (L : List (List UInt8 × EV)) : (mapB L).length = L.length := by simp [mapB]
/-- what an entry is, plainly -/
def EV.ep (o : EV) : EP := (o.v, o.k, o.x.l)
/-- the entries of a row, plainly -/
def plainB (L : List (List UInt8 × EV)) : List (List UInt8 × EP) := L.map fun x => (x.1, x.2.ep)
theorem get_plainB (L : List (List UInt8 × EV)) (p : List UInt8) : getR (plainB L) p = (getR L p).map EV.ep := getR_map EV.ep L p
theorem keys_plainB (L : List (List UInt8 × EV)) : keysR (plainB L) = keysR L := keys_map EV.ep L
theorem plainB_len (L : List (List UInt8 × EV)) : (plainB L).length = L.length := by simp [plainB]
theorem plainB_put (L : List (List UInt8 × EV)) (p : List UInt8) (o : EV) : plainB (putR L p o) = putR (plainB L) p o.ep := (put_map EV.ep L p o).symm
theorem plainB_without (L : List (List UInt8 × EV)) (p : List UInt8) : plainB (withoutR L p) = withoutR (plainB L) p := (without_map EV.ep L p).symm
theorem mapB_put (L : List (List UInt8 × EV)) (p : List UInt8) (o : EV) : mapB (putR L p o) = putR (mapB L) p o.val := (put_map EV.val L p o).symm
theorem mapB_without (L : List (List UInt8 × EV)) (p : List UInt8) : mapB (withoutR L p) = withoutR (mapB L) p := (without_map EV.val L p).symm
/-- is an entry right? -/
def checkP (p : List UInt8) (x : EP) : Int := checkE p x.1 x.2.1 x.2.2.length
/-- what every book keeps -/
structure BookOk (T : List (List UInt8 × EP)) : Prop where
  sort : SortR T
  good : ∀ x ∈ T, checkP x.1 x.2 = 0
  len : T.length ≤ 256
theorem BookOk.nil : BookOk [] := ⟨sortR_nil, by simp, by simp⟩
theorem checkP_good {p : List UInt8} {x : EP} (h : checkP p x = 0) : userB p = true ∧ isV x.1 = true ∧ checkN x.2.1 x.2.2.length = 0 := by
  unfold checkP checkE at h
  split at h
  · simp at h
  · rename_i h1
    split at h
    · simp at h
    · rename_i h2
      exact ⟨by simpa using h1, by simpa using h2, h⟩
theorem userB_good {p : List UInt8} (h : userB p = true) : goodB p = true := by
  unfold userB at h
  simp only [Bool.and_eq_true] at h
  exact h.1
theorem isV_pos {v : Int} (h : isV v = true) : 1048577 ≤ v ∧ v < 18446744073709551616 := by
  have := goodV_iff.1 h
  omega
theorem checkN_len {k : Int} {n : Nat} (h : checkN k n = 0) : n ≤ 4096 := by
  unfold checkN at h
  split at h
  · split at h
    · assumption
    · simp at h
  · split at h
    · split at h
      · omega
      · simp at h
    · simp at h
/-- what Put answers, and what it leaves -/
def putP (T : List (List UInt8 × EP)) (p : List UInt8) (x : EP) : List (List UInt8 × EP) × Int := putB T p x (checkP p x)
theorem BookOk.put {T : List (List UInt8 × EP)} (h : BookOk T) (p : List UInt8) (x : EP) : BookOk (putP T p x).1 := by
  unfold putP putB
  split
  · exact h
  · rename_i hc
    rw [Classical.not_not] at hc
    split
    · exact h
    · split
      · rename_i hf
        rcases hs : spareB T with _ | y
        · exact h
        · dsimp only [Option.elim]
          obtain ⟨hy, _⟩ := spareB_mem hs
          have hw := h.sort.without_len (h.sort.get hy)
          refine ⟨(h.sort.without _).put _ _, fun z hz => ?_, ?_⟩
          · unfold putR at hz
            rcases mem_ins.1 hz with rfl | hz
            · exact hc
            · exact h.good z (List.mem_filter.1 (List.mem_filter.1 hz).1).1
          · unfold putR
            rw [ins_len]
            have h1 := without_len_le (withoutR T y.1) p
            have h2 := h.len
            omega
      · rename_i hf
        refine ⟨h.sort.put _ _, fun z hz => ?_, ?_⟩
        · unfold putR at hz
          rcases mem_ins.1 hz with rfl | hz
          · exact hc
          · exact h.good z (List.mem_filter.1 hz).1
        · unfold putR
          dsimp only
          rw [ins_len]
          have h2 := h.len
          rcases hq : getR T p with _ | v
          · rw [hq] at hf
            simp at hf
            rw [without_self hq]
            omega
          · have := h.sort.without_len hq
            omega
/-- an entry in a book -/
structure EV.inB (w : World) (p : List UInt8) (o : EV) : Prop where
  own : OwB w 0 (.slice o.x.A o.x.l.length o.x.c) o.x.l
  p : tl o.p = p
theorem EV.inB.x {w : World} {p : List UInt8} {o : EV} (h : o.inB w p) : o.x.ok w (fun _ => True) := by
  obtain ⟨A', c', e, h2, h3, _⟩ := h.own.form
  injection e with e1 e2 e3
  subst e1 e3
  exact ⟨h.own.rd.mono (fun _ _ _ => trivial), h2, h3⟩
/-- the book at block bb; its map at mo, if it has one -/
structure BookAt (w : World) (bb : Nat) (mo : Option Nat) (L : List (List UInt8 × EV)) (s : Int) : Prop where
  blk : Blk w bb 119 #[.int .u64 s, .map mo]
  map : (mo = none ∧ L = []) ∨ ∃ mb, mo = some mb ∧ MapAt w Tryz.prog 9 mb (mapB L)
  ok : ∀ x ∈ L, x.2.inB w x.1
  plain : BookOk (plainB L)
theorem EV.inB.below {w w' : World} {p : List UInt8} {o : EV} (h : o.inB w p) (k : Below w.heap.size w w') : o.inB w' p := ⟨h.own.below k, h.p⟩
namespace BookAt
variable {w w' : World} {bb : Nat} {mo : Option Nat} {L : List (List UInt8 × EV)} {s : Int}
theorem fr {S : Nat → Prop} (h : BookAt w bb mo L s) (k : Fr S w w') (h1 : ¬ S bb) (h2 : ∀ m, mo = some m → ¬ S m) (h3 : ∀ x ∈ L, ∀ g, (Value.slice x.2.x.A x.2.x.l.length x.2.x.c).ownBlock = some g → ¬ S g) : BookAt w' bb mo L s :=
  ⟨h.blk.fr k h1, h.map.imp id fun ⟨mb, e, hm⟩ => ⟨mb, e, hm.block (k.block mb hm.lt (h2 mb e))⟩, fun x hx => ⟨own_fr (h.ok x hx).own k (h3 x hx), (h.ok x hx).p⟩, h.plain⟩
theorem below (h : BookAt w bb mo L s) (k : Below w.heap.size w w') : BookAt w' bb mo L s := h.fr (Fr.of_below k (fun _ => False)) (fun h => h) (fun _ _ h => h) (fun _ _ _ _ h => h)
theorem own_map {mb base n size : Nat} {e : TypeId} {v : Value} {xs : List Value} {K : List (List UInt8 × Value)} (hm : MapAt w Tryz.prog 9 mb K) (h : w.ownsRow base e size v n xs) : v.ownBlock ≠ some mb := by
  rcases h.2 with ⟨rfl, _⟩ | ⟨g', cap, cur, rfl, _, hh, _⟩
  · simp [Value.ownBlock]
  · intro he
    have e1 : g' = mb := by simpa [Value.ownBlock] using he
    subst e1
    exact hm.not_cells hh
/-- rows of the call's own do not lie in a book's own blocks -/
theorem ownT (t : BookAt w bb mo L s) {base n size : Nat} {e : TypeId} {v : Value} {xs : List Value} (h : w.ownsRow base e size v n xs) (he : e ≠ 119) : ∀ g, v.ownBlock = some g → ¬ (g = bb ∨ mo = some g) := by
  rintro g hg (rfl | hm)
  · exact t.blk.own_ne h he hg
  · rcases t.map with ⟨e0, _⟩ | ⟨mb, e0, hm2⟩
    · rw [e0] at hm; cases hm
    · rw [e0] at hm
      injection hm with hm
      subst hm
      exact own_map hm2 h hg
/-- rows of the call's own of another type stand apart from a book: whatever is written there, the book stays -/
theorem fr_row (t : BookAt w bb mo L s) {base n size : Nat} {e : TypeId} {v : Value} {xs : List Value} (h : w.ownsRow base e size v n xs) (he : e ≠ 119) (he2 : e ≠ 5) (k : Fr (fun g => v.ownBlock = some g) w w') : BookAt w' bb mo L s := by
  have h1 := t.ownT h he
  refine t.fr k (fun e => h1 _ e (.inl rfl)) (fun m e e2 => h1 _ e2 (.inr e)) (fun x hx g hg e2 => ?_)
  rcases h.2 with ⟨rfl, _⟩ | ⟨g', cap, cur, rfl, _, hh, _⟩
  · simp [Value.ownBlock] at e2
  · have e3 : g' = g := by simpa [Value.ownBlock] using e2
    subst e3
    have hb : Blk w g' e _ := hh
    exact hb.own_ne (t.ok x hx).own (fun e => he2 e.symm) hg
/-- a block of another type is none of a book's -/
theorem notB (t : BookAt w bb mo L s) {g : Nat} {e : TypeId} {cs : Array Value} (h : Blk w g e cs) (he : e ≠ 119) : ¬ (g = bb ∨ mo = some g) := by
  rintro (rfl | hm)
  · have := t.blk
    unfold Blk at this h
    rw [h] at this
    injection this with this
    injection this with _ e1
    exact he e1
  · rcases t.map with ⟨e0, _⟩ | ⟨mb, e0, hm2⟩
    · rw [e0] at hm; cases hm
    · rw [e0] at hm
      injection hm with hm
      subst hm
      exact hm2.not_cells h
/-- a block of another type written: the book stays -/
theorem fr_blk (t : BookAt w bb mo L s) {g : Nat} {e : TypeId} {cs : Array Value} (h : Blk w g e cs) (he : e ≠ 119) (he2 : e ≠ 5) (k : Fr (fun x => x = g) w w') : BookAt w' bb mo L s := by
  have h1 := t.notB h he
  refine t.fr k (fun e => h1 (.inl e.symm)) (fun m e e2 => h1 (.inr (by rw [e, e2]))) (fun x hx g' hg e2 => ?_)
  subst e2
  exact h.own_ne (t.ok x hx).own (fun e => he2 e.symm) hg
theorem ne (h : BookAt w bb mo L s) : mo ≠ some bb := by
  rcases h.map with ⟨e, _⟩ | ⟨mb, e, hm⟩
  · rw [e]; simp
  · rw [e]
    intro e2
    injection e2 with e2
    subst e2
    exact hm.not_cells h.blk
theorem lt (h : BookAt w bb mo L s) : ∀ m, mo = some m → m < w.heap.size := by
  rcases h.map with ⟨e, _⟩ | ⟨mb, e, hm⟩
  · rw [e]; simp
  · rw [e]
    intro m e2
    injection e2 with e2
    subst e2
    exact hm.lt
theorem len (h : BookAt w bb mo L s) : L.length ≤ 256 := by have := h.plain.len; rwa [plainB_len] at this
theorem sort (h : BookAt w bb mo L s) : SortR L := (sort_map EV.ep).1 h.plain.sort
theorem small (h : BookAt w bb mo L s) {x : List UInt8 × EV} (hx : x ∈ L) : userB x.1 = true ∧ isV x.2.v = true ∧ checkN x.2.k x.2.x.l.length = 0 := checkP_good (h.plain.good (x.1, x.2.ep) (List.mem_map.2 ⟨x, hx, rfl⟩))
theorem keys (h : BookAt w bb mo L s) {x : List UInt8 × EV} (hx : x ∈ L) : x.1.length ≤ 96 := goodB_len (userB_good (h.small hx).1)
theorem data (h : BookAt w bb mo L s) {x : List UInt8 × EV} (hx : x ∈ L) : x.2.x.l.length ≤ 4096 := checkN_len (h.small hx).2.2
theorem pl (h : BookAt w bb mo L s) : (L.map fun x => (tl x.2.p, x.2.ep)) = plainB L := List.map_congr_left fun x hx => by rw [(h.ok x hx).p]
end BookAt
theorem BookAt.cells {w : World} {bb : Nat} {mo : Option Nat} {L : List (List UInt8 × EV)} {s : Int} (h : BookAt w bb mo L s) : w.cell? ⟨bb, 0, none⟩ = some (.int .u64 s) ∧ w.cell? ⟨bb, 1, none⟩ = some (.map mo) := ⟨h.blk.cell 0, h.blk.cell 1⟩
set_option maxRecDepth 100000 in
set_option maxHeartbeats 400000 in
theorem bookSession_any (bb : Nat) (mo : Option Nat) (L : List (List UInt8 × EV)) (s : Int) (w : World) (h : BookAt w bb mo L s) :
    Calls Tryz.prog 29 #[.pointer (some ⟨bb, 0, none⟩)] w fun e w' => e = .returned (.int .u64 s) ∧ w = w' := by
  obtain ⟨c0, _⟩ := h.cells
  clear h
  go_enter Tryz.func29, Tryz.ntmps29
  go_wp2_with fail
  go_ret
  exact ⟨rfl, rfl⟩
set_option maxRecDepth 100000 in
set_option maxHeartbeats 400000 in
theorem bookSession_nil (w : World) : Calls Tryz.prog 29 #[.pointer none] w fun e w' => e = .returned (.int .u64 0) ∧ w = w' := by
  go_enter Tryz.func29, Tryz.ntmps29
  go_wp2_with fail
  go_ret
  exact ⟨rfl, rfl⟩
set_option maxRecDepth 100000 in
set_option maxHeartbeats 400000 in
theorem bookLen_any (bb : Nat) (mo : Option Nat) (L : List (List UInt8 × EV)) (s : Int) (w : World) (h : BookAt w bb mo L s) :
    Calls Tryz.prog 54 #[.pointer (some ⟨bb, 0, none⟩)] w fun e w' => e = .returned (.int .i64 L.length) ∧ w = w' := by
  obtain ⟨_, c1⟩ := h.cells
  rcases h.map with ⟨rfl, rfl⟩ | ⟨mb, rfl, hm⟩
  · clear h
    go_enter Tryz.func54, Tryz.ntmps54
    go_wp2_with fail
    go_ret
    exact ⟨rfl, rfl⟩
  · have hc := fun ty => hm.count (w := w) Tryz.underlying9 (t := 117) (e := 59) Tryz.underlying117 ty
    rw [mapB_len] at hc
    clear h hm
    go_enter Tryz.func54, Tryz.ntmps54
    go_wp2_with fail
    go_ret
    exact ⟨rfl, rfl⟩
set_option maxRecDepth 100000 in
set_option maxHeartbeats 400000 in
theorem bookLen_nil (w : World) : Calls Tryz.prog 54 #[.pointer none] w fun e w' => e = .returned (.int .i64 0) ∧ w = w' := by
  go_enter Tryz.func54, Tryz.ntmps54
  go_wp2_with fail
  go_ret
  exact ⟨rfl, rfl⟩
end Go.Proofs.YtdnljmncdbcgeaaGreat
