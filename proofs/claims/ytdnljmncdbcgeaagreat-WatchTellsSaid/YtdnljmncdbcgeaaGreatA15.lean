/- WatchTells is true for every input: what stood where at any moment, whether something stood at a path between any moments, or at both sides at once, and when another thing came, is the document's. No condition beyond the row's own. -/
import Derived.Test.YtdnljmncdbcgeaaGreatA14

namespace Go.Proofs.YtdnljmncdbcgeaaGreat
open Go.RowKit Go.Maps

theorem some_congr {f g : Nat → Bool} {n : Nat} {a b : Int} (h : ∀ j, j < n → f j = g j) : someG f n a b = someG g n a b := by
  rcases hg : someG g n a b with _ | _
  · refine some_false fun j hj h1 h2 => ?_
    rw [h j hj]
    rcases hgj : g j with _ | _
    · rfl
    · rw [some_true hj h1 h2 hgj] at hg; cases hg
  · unfold someG at hg
    rw [List.any_eq_true] at hg
    obtain ⟨j, hj, h1⟩ := hg
    simp only [Bool.and_eq_true, decide_eq_true_eq] at h1
    exact some_true (List.mem_range.1 hj) h1.1.1 h1.1.2 (by rw [h j (List.mem_range.1 hj)]; exact h1.2)
section
variable {MS : List MO} {PL : List (List (List UInt8 × LP) × List (List UInt8 × LP))}
theorem mos_len (h : MS.map MO.pl = PL) : PL.length = MS.length := by rw [← h, List.length_map]
theorem side_len (h : MS.map MO.pl = PL) (side : Int) : (sideS (PL.map (·.1)) (PL.map (·.2)) side).length = if side = 1 ∨ side = 2 then MS.length else 0 := by
  unfold sideS
  by_cases h1 : side = 1
  · rw [if_pos h1, if_pos (.inl h1), List.length_map, mos_len h]
  · rw [if_neg h1]
    by_cases h2 : side = 2
    · rw [if_pos h2, if_pos (.inr h2), List.length_map, mos_len h]
    · rw [if_neg h2, if_neg (by rintro (e | e); (· exact h1 e); (· exact h2 e))]; rfl
theorem seen_is (h : MS.map MO.pl = PL) (side : Int) (p : List UInt8) (x : LP) (j : Nat) (hj : j < (sideS (PL.map (·.1)) (PL.map (·.2)) side).length) : seenM MS side p x j = isAt (sideS (PL.map (·.1)) (PL.map (·.2)) side) p x j := by
  unfold seenM isAt
  rw [rowM_at h, atS_nat hj]
theorem came_is (h : MS.map MO.pl = PL) (side : Int) (p : List UInt8) (j : Nat) : cameM MS side p j = cameS (sideS (PL.map (·.1)) (PL.map (·.2)) side) p j := by
  unfold cameM cameS
  rw [rowM_at h, rowM_at h]
theorem held_is (h : MS.map MO.pl = PL) (side : Int) (p : List UInt8) (x : LP) (a b : Int) :
    someG (seenM MS side p x) (if side = 1 ∨ side = 2 then MS.length else 0) a b = someG (isAt (sideS (PL.map (·.1)) (PL.map (·.2)) side) p x) (sideS (PL.map (·.1)) (PL.map (·.2)) side).length a b := by
  rw [← side_len h side]
  exact some_congr fun j hj => seen_is h side p x j hj
theorem common_is (h : MS.map MO.pl = PL) (p : List UInt8) (x : LP) (a b : Int) : someG (bothM MS p x) MS.length a b = someG (bothAt (PL.map (·.1)) (PL.map (·.2)) p x) (PL.map (·.1)).length a b := by
  rw [List.length_map, mos_len h]
  refine some_congr fun j hj => ?_
  unfold bothM bothAt
  rw [seen_is h 1 p x j (by show j < (PL.map (·.1)).length; rw [List.length_map, mos_len h]; exact hj), seen_is h 2 p x j (by show j < (PL.map (·.2)).length; rw [List.length_map, mos_len h]; exact hj)]
  rfl
theorem turns_is (h : MS.map MO.pl = PL) (side : Int) (p : List UInt8) : (List.range MS.length).filter (cameM MS side p) = (turnsG 0 ((0, []) : LP) ((sideS (PL.map (·.1)) (PL.map (·.2)) side).map fun T => at0 T p)).map (·.1) := by
  rw [turns_came, side_len h side]
  by_cases hs : side = 1 ∨ side = 2
  · rw [if_pos hs]
    exact List.filter_congr fun j _ => came_is h side p j
  · rw [if_neg hs, sideS_none hs]
    rw [show (List.range 0).filter (cameS [] p) = [] from rfl, List.filter_eq_nil_iff]
    intro j _
    rw [came_is h side p j, sideS_none hs]
    unfold cameS atS
    rw [if_neg (by simp <;> omega), if_neg (by simp <;> omega)]
    simp
end

set_option maxRecDepth 100000 in
set_option maxHeartbeats 4000000 in
theorem watchTells_any (B : Option Addr) (d : Nat) (L : List SV) (sd : Int) (p : List UInt8) (k : Int) (A : Option Addr) (c : Nat) (l : List UInt8) (fr to m : Int) (Z : Nat → Prop) (w : World) (h : StA w B L) (hy : By w Z A l) :
    Calls Tryz.prog 3 #[.slice B L.length d, .agg #[.int .i64 sd, .string ⟨⟨p⟩⟩, .int .i64 k, .slice A l.length c, .int .i64 fr, .int .i64 to], .int .i64 m] w fun e w' => e = .returned (.bool true) ∧ Below w.heap.size w w' := by
  have hb0 : Below w.heap.size w (w.alloc (.cells #[.int .i64 sd, .string ⟨⟨p⟩⟩, .int .i64 k, .slice A l.length c, .int .i64 fr, .int .i64 to] 27)) := (Below.refl _ _).alloc (Nat.le_refl _) _
  have b0 := Blk.new w 27 #[.int .i64 sd, .string ⟨⟨p⟩⟩, .int .i64 k, .slice A l.length c, .int .i64 fr, .int .i64 to]
  have HA := Lib.hid (h.below hb0)
  have HY := Lib.hid (hy.below hb0)
  have HLI := Lib.hid (lightW_any B d L _ (h.below hb0))
  obtain ⟨qb, hqb⟩ : ∃ qb, qb = w.heap.size := ⟨_, rfl⟩
  rw [← hqb] at b0
  clear h hy
  go_enter Tryz.func3, Tryz.ntmps3
  go_upto_region 1 with (fail)
  rw [← hqb]
  clear hqb
  generalize w.alloc (.cells #[.int .i64 sd, .string ⟨⟨p⟩⟩, .int .i64 k, .slice A l.length c, .int .i64 fr, .int .i64 to] 27) = w1 at *
  have HQ : Hid (∀ W, Below w1.heap.size w1 W → W.cell? ⟨qb, 0, none⟩ = some (.int .i64 sd) ∧ W.cell? ⟨qb, 1, none⟩ = some (.string ⟨⟨p⟩⟩) ∧ W.cell? ⟨qb, 2, none⟩ = some (.int .i64 k) ∧ W.cell? ⟨qb, 3, none⟩ = some (.slice A l.length c) ∧ W.cell? ⟨qb, 4, none⟩ = some (.int .i64 fr) ∧ W.cell? ⟨qb, 5, none⟩ = some (.int .i64 to)) := Lib.hid (fun W hW => ⟨(b0.below hW).cell 0, (b0.below hW).cell 1, (b0.below hW).cell 2, (b0.below hW).cell 3, (b0.below hW).cell 4, (b0.below hW).cell 5⟩)
  clear b0
  rcases hli : lightW L with _ | _
  · rw [hli] at HLI
    go_wp2_with fail
    refine HLI.out.mono ?_
    rintro e wl ⟨rfl, hbl⟩
    have hwl := hb0.trans (hbl.mono hb0.size)
    go_wp2_with fail
    refine (lives42_any _).mono ?_
    rintro e w9 ⟨rfl, hb9⟩
    go_wp2_with fail
    go_ret
    exact ⟨rfl, hwl.trans (hb9.mono hwl.size)⟩
  rw [hli] at HLI
  have hla := lightW_all hli
  clear hli
  go_wp2_with fail
  refine HLI.out.mono ?_
  rintro e wl ⟨rfl, hbl⟩
  have hwl := hb0.trans (hbl.mono hb0.size)
  obtain ⟨q0, q1, q2, q3, q4, q5⟩ := HQ.out wl hbl
  by_cases hp : 200 < (p.length : Int)
  · have hd : decide (200 < (p.length : Int)) = true := decide_eq_true hp
    go_wp2_with fail
    refine (lives42_any _).mono ?_
    rintro e w9 ⟨rfl, hb9⟩
    go_wp2_with fail
    go_ret
    exact ⟨rfl, hwl.trans (hb9.mono hwl.size)⟩
  have hd : decide (200 < (p.length : Int)) = false := decide_eq_false hp
  by_cases hl : 5000 < (l.length : Int)
  · have hd2 : decide (5000 < (l.length : Int)) = true := decide_eq_true hl
    go_wp2_with fail
    refine (lives42_any _).mono ?_
    rintro e w9 ⟨rfl, hb9⟩
    go_wp2_with fail
    go_ret
    exact ⟨rfl, hwl.trans (hb9.mono hwl.size)⟩
  have hd2 : decide (5000 < (l.length : Int)) = false := decide_eq_false hl
  have hlen := hla.1
  have hpl : p.length ≤ 1048576 := by omega
  go_wp2_with fail
  refine (made_any B d L wl (HA.out.below hbl) hla).mono ?_
  rintro e w2 ⟨gb, col, WA, wc, MS, rfl, hmd, hb2⟩
  have hw12 : Below w1.heap.size w1 w2 := hbl.trans (hb2.mono hbl.size)
  have hw2 := hwl.trans (hb2.mono hwl.size)
  have HLG := Lib.hid hmd.log
  have HMR := Lib.hid (show MosR w2 WA MS from ⟨hmd.row, hmd.its⟩)
  obtain ⟨PL, hPL⟩ : ∃ PL, PL = momS L := ⟨_, rfl⟩
  have hpll : PL.length ≤ 60 := by rw [hPL, mom_len]; exact hlen
  have HPM : Hid (MS.map MO.pl = PL) := Lib.hid (by rw [hPL]; exact hmd.pl.out)
  rw [← hPL] at HLG
  have hmsl : MS.length ≤ 60 := by rw [← mos_len HPM.out]; exact hpll
  have hHl : (PL.map (·.1)).length ≤ 300 := by rw [List.length_map]; omega
  obtain ⟨S, hS⟩ : ∃ S, S = sideS (PL.map (·.1)) (PL.map (·.2)) sd := ⟨_, rfl⟩
  obtain ⟨X, hX⟩ : ∃ X, X = atS S p m := ⟨_, rfl⟩
  have HAT1 := Lib.hid (fun W (hW : Below w2.heap.size w2 W) => logAt_any col gb _ _ sd p m W (HLG.out.below hW) hpl hHl)
  rw [← hS, ← hX] at HAT1
  obtain ⟨kr, Ar, cr, lr, har, hyr, hat2⟩ := refLeaf wc HMR.out sd p m hpl (by omega)
  have HAT2 := Lib.hid hat2
  have HYR := Lib.hid hyr
  have HXR : Hid (X = (kr, lr)) := Lib.hid (by rw [hX, hS, ← rowM_at HPM.out, har.out])
  clear hmd q0 q1 q2 q3 q4 q5 hX hat2 har hyr HLI hla hd hd2
  go_wp2_with fail
  refine wp_region_p [(0, true), (1, true), (2, true), (3, true), (4, true), (5, true), (6, true), (7, true), (8, true), (10, true), (11, true), (12, true), (13, true), (14, true), (15, true), (9, false), (16, false), (17, false), (18, true), (19, true)] (fun W => Below w2.heap.size w2 W) (by kernel_rfl) (by kernel_rfl) ?_
  simp only [List.map_cons, List.map_nil, List.filterMap_cons, List.filterMap_nil, List.getElem?_cons_zero, List.getElem?_cons_succ, List.length_cons, List.length_nil, Nat.zero_add, Nat.reduceAdd, List.drop_succ_cons, List.drop_zero]
  refine mx_move _ (by kernel_rfl) rfl ⟨_, (by ((try simp [go_sem]); (try rfl); done)), _, (by (simp only [Act.put, List.setIfInBounds_toArray, List.set_cons_zero, List.set_cons_succ]; rfl)), ?_⟩
  refine mx_val (by kernel_rfl) ⟨_, (by (intro w' hC; clear hC; (try go_simp); (try with_reducible rfl); done)), _, (by (simp only [Act.put, List.setIfInBounds_toArray, List.set_cons_zero, List.set_cons_succ]; rfl)), ?_⟩
  refine mx_move _ (by kernel_rfl) rfl ⟨_, (by ((try simp [go_sem]); (try rfl); done)), _, (by (simp only [Act.put, List.setIfInBounds_toArray, List.set_cons_zero, List.set_cons_succ]; rfl)), ?_⟩
  refine mx_move _ (by kernel_rfl) rfl ⟨_, (by ((try simp [go_sem]); (try rfl); done)), _, (by (simp only [Act.put, List.setIfInBounds_toArray, List.set_cons_zero, List.set_cons_succ]; rfl)), ?_⟩
  refine mx_val (by kernel_rfl) ⟨_, (by (intro w' hC; clear hC; (try go_simp); (try with_reducible rfl); done)), _, (by (simp only [Act.put, List.setIfInBounds_toArray, List.set_cons_zero, List.set_cons_succ]; rfl)), ?_⟩
  refine mx_val (by kernel_rfl) ⟨_, (by (intro w' hC; (obtain ⟨q0, q1, q2, q3, q4, q5⟩ := HQ.out _ (hw12.trans (hC.mono hw12.size))); clear hC; (try go_simp); (try with_reducible rfl); done)), _, (by (simp only [Act.put, List.setIfInBounds_toArray, List.set_cons_zero, List.set_cons_succ]; rfl)), ?_⟩
  refine mx_val (by kernel_rfl) ⟨_, (by (intro w' hC; clear hC; (try go_simp); (try with_reducible rfl); done)), _, (by (simp only [Act.put, List.setIfInBounds_toArray, List.set_cons_zero, List.set_cons_succ]; rfl)), ?_⟩
  refine mx_val (by kernel_rfl) ⟨_, (by (intro w' hC; (obtain ⟨q0, q1, q2, q3, q4, q5⟩ := HQ.out _ (hw12.trans (hC.mono hw12.size))); clear hC; (try go_simp); (try with_reducible rfl); done)), _, (by (simp only [Act.put, List.setIfInBounds_toArray, List.set_cons_zero, List.set_cons_succ]; rfl)), ?_⟩
  refine mx_move _ (by kernel_rfl) rfl ⟨_, (by ((try simp [go_sem]); (try rfl); done)), _, (by (simp only [Act.put, List.setIfInBounds_toArray, List.set_cons_zero, List.set_cons_succ]; rfl)), ?_⟩
  refine mx_move _ (by kernel_rfl) rfl ⟨_, (by ((try simp [go_sem]); (try rfl); done)), _, (by (simp only [Act.put, List.setIfInBounds_toArray, List.set_cons_zero, List.set_cons_succ]; rfl)), ?_⟩
  refine mx_val (by kernel_rfl) ⟨_, (by (intro w' hC; clear hC; (try go_simp); (try with_reducible rfl); done)), _, (by (simp only [Act.put, List.setIfInBounds_toArray, List.set_cons_zero, List.set_cons_succ]; rfl)), ?_⟩
  refine mx_val (by kernel_rfl) ⟨_, (by (intro w' hC; (obtain ⟨q0, q1, q2, q3, q4, q5⟩ := HQ.out _ (hw12.trans (hC.mono hw12.size))); clear hC; (try go_simp); (try with_reducible rfl); done)), _, (by (simp only [Act.put, List.setIfInBounds_toArray, List.set_cons_zero, List.set_cons_succ]; rfl)), ?_⟩
  refine mx_val (by kernel_rfl) ⟨_, (by (intro w' hC; clear hC; (try go_simp); (try with_reducible rfl); done)), _, (by (simp only [Act.put, List.setIfInBounds_toArray, List.set_cons_zero, List.set_cons_succ]; rfl)), ?_⟩
  refine mx_val (by kernel_rfl) ⟨_, (by (intro w' hC; (obtain ⟨q0, q1, q2, q3, q4, q5⟩ := HQ.out _ (hw12.trans (hC.mono hw12.size))); clear hC; (try go_simp); (try with_reducible rfl); done)), _, (by (simp only [Act.put, List.setIfInBounds_toArray, List.set_cons_zero, List.set_cons_succ]; rfl)), ?_⟩
  refine mx_move _ (by kernel_rfl) rfl ⟨_, (by ((try simp [go_sem]); (try rfl); done)), _, (by (simp only [Act.put, List.setIfInBounds_toArray, List.set_cons_zero, List.set_cons_succ]; rfl)), ?_⟩
  refine mx_call ((Below.refl _ _).drew) (by kernel_rfl) ?_ (HAT1.out _ (Below.refl _ _).drew) ?_
  · (go_simp; done)
  rintro e w3 ⟨⟨k3, A3, c3, l3, rfl, hx3, ho3, _⟩, hb_w3⟩
  have hlow1 : Below w2.heap.size w2 w3 := (Below.refl _ _).drew.trans (hb_w3.mono (Nat.le_refl _))
  refine ⟨_, rfl, _, (by (simp only [Act.put, List.setIfInBounds_toArray, List.set_cons_zero, List.set_cons_succ]; rfl)), ?_⟩
  refine mx_call (hlow1) (by kernel_rfl) ?_ (HAT2.out _ hlow1) ?_
  · (go_simp; done)
  rintro e w4 ⟨rfl, hb_w4⟩
  have hb4 : Below w2.heap.size w2 w4 := hlow1.trans (hb_w4.mono hlow1.size)
  have hsm : (k3 == kr && l3 == lr) = true := by
    show (((k3, l3) : LP) == (kr, lr)) = true
    rw [hx3.out, HXR.out]
    simp
  have HSM := Lib.hid (leafSameR_any k3 kr A3 Ar c3 cr l3 lr _ _ w4 (OwB.below ho3 hb_w4).rd (HYR.out.below hb4))
  rw [hsm] at HSM
  clear hsm hx3 ho3
  refine ⟨_, rfl, _, (by (simp only [Act.put, List.setIfInBounds_toArray, List.set_cons_zero, List.set_cons_succ]; rfl)), ?_⟩
  refine mx_call (hb4) (by kernel_rfl) ?_ (HSM.out) ?_
  · (go_simp; done)
  rintro e w5 ⟨rfl, hb_w5⟩
  have hlow5 : Below w2.heap.size w2 w5 := hb4.trans (hb_w5.mono hb4.size)
  refine ⟨_, rfl, _, (by (simp only [Act.put, List.setIfInBounds_toArray, List.set_cons_zero, List.set_cons_succ]; rfl)), ?_⟩
  refine mx_val (by kernel_rfl) ⟨_, (by (intro w' hC; clear hC; (try go_simp); (try with_reducible rfl); done)), _, (by (simp only [Act.put, List.setIfInBounds_toArray, List.set_cons_zero, List.set_cons_succ]; rfl)), ?_⟩
  refine mx_val (by kernel_rfl) ⟨_, (by (intro w' hC; clear hC; (try go_simp); (try with_reducible rfl); done)), _, (by (simp only [Act.put, List.setIfInBounds_toArray, List.set_cons_zero, List.set_cons_succ]; rfl)), ?_⟩
  refine mx_end hlow5 ?_
  have hw15 := hw12.trans (hlow5.mono hw12.size)
  have hw5 := hw2.trans (hlow5.mono hw2.size)
  have HHD := Lib.hid (fun W (hW : Below w5.heap.size w5 W) => held_any col gb _ _ sd p k A c l _ fr to W (HLG.out.below (hlow5.trans (hW.mono hlow5.size))) hpl hHl (HY.out.below (hw15.trans (hW.mono hw15.size))))
  have HRH := Lib.hid (fun W (hW : Below w5.heap.size w5 W) => refHeld_any WA wc MS sd p k A c l _ fr to W (HMR.out.below (hlow5.trans (hW.mono hlow5.size))) hpl (by omega) (HY.out.below (hw15.trans (hW.mono hw15.size))))
  have HCM := Lib.hid (fun W (hW : Below w5.heap.size w5 W) => common_any col gb _ _ p k A c l _ fr to W (HLG.out.below (hlow5.trans (hW.mono hlow5.size))) hpl hHl (HY.out.below (hw15.trans (hW.mono hw15.size))))
  have HRC := Lib.hid (fun W (hW : Below w5.heap.size w5 W) => refCommon_any WA wc MS p k A c l _ fr to W (HMR.out.below (hlow5.trans (hW.mono hlow5.size))) hpl (by omega) (HY.out.below (hw15.trans (hW.mono hw15.size))))
  rw [held_is HPM.out, ← hS] at HRH
  rw [← hS] at HHD
  rw [common_is HPM.out] at HRC
  obtain ⟨V1, hV1⟩ : ∃ V1, V1 = someG (isAt S p (k, l)) S.length fr to := ⟨_, rfl⟩
  obtain ⟨V2, hV2⟩ : ∃ V2, V2 = someG (bothAt (PL.map (·.1)) (PL.map (·.2)) p (k, l)) (PL.map (·.1)).length fr to := ⟨_, rfl⟩
  rw [← hV1] at HHD HRH
  rw [← hV2] at HCM HRC
  have f1 : (V1 != V1) = false := by simp
  have f2 : (V2 != V2) = false := by simp
  have hST : Hid ((List.range MS.length).filter (cameM MS sd p) = (turnsG 0 ((0, []) : LP) (S.map fun T => at0 T p)).map (·.1)) := Lib.hid (by rw [hS]; exact turns_is HPM.out sd p)
  have HT1 := Lib.hid (fun W (hW : Below w5.heap.size w5 W) => turns_any col gb _ _ sd p W (HLG.out.below (hlow5.trans (hW.mono hlow5.size))) hpl hHl)
  have HT2 := Lib.hid (fun W (hW : Below w5.heap.size w5 W) => refTurns_any WA wc MS sd p W (HMR.out.below (hlow5.trans (hW.mono hlow5.size))) hpl (by omega))
  rw [← hS] at HT1
  rw [hST.out] at HT2
  obtain ⟨G, hG⟩ : ∃ G, G = (turnsG 0 ((0, []) : LP) (S.map fun T => at0 T p)).map (·.1) := ⟨_, rfl⟩
  rw [← hG] at HT1 HT2
  have hGl : G.length ≤ 60 := by
    rw [hG, List.length_map]
    have h1 := turns_len (S.map fun T => at0 T p) 0 ((0, []) : LP)
    rw [List.length_map] at h1
    have h2 : S.length ≤ 60 := by rw [hS, side_len HPM.out]; split <;> omega
    omega
  clear hV1 hV2 hG hS hST HAT1 HAT2 HYR HXR HPM HSM hPL HMR HLG hHl hpll hmsl hb4
  go_wp2_with fail
  refine wp_region_b 48 (by kernel_rfl) (by kernel_rfl) ?_
  simp only [List.take_succ_cons, List.take_zero, List.drop_succ_cons, List.drop_zero]
  refine lb_move _ (by kernel_rfl) rfl ⟨_, (by ((try simp [go_sem]); (try rfl); done)), _, (by (simp only [Act.put, List.setIfInBounds_toArray, List.set_cons_zero, List.set_cons_succ]; rfl)), ?_⟩
  refine lb_val (by kernel_rfl) ⟨_, (by (intro w' hC; clear hC; (try go_simp); (try with_reducible rfl); done)), _, (by (simp only [Act.put, List.setIfInBounds_toArray, List.set_cons_zero, List.set_cons_succ]; rfl)), ?_⟩
  refine lb_val (by kernel_rfl) ⟨_, (by (intro w' hC; (obtain ⟨q0, q1, q2, q3, q4, q5⟩ := HQ.out _ (hw15.trans (hC.mono hw15.size))); clear hC; (try go_simp); (try with_reducible rfl); done)), _, (by (simp only [Act.put, List.setIfInBounds_toArray, List.set_cons_zero, List.set_cons_succ]; rfl)), ?_⟩
  refine lb_val (by kernel_rfl) ⟨_, (by (intro w' hC; clear hC; (try go_simp); (try with_reducible rfl); done)), _, (by (simp only [Act.put, List.setIfInBounds_toArray, List.set_cons_zero, List.set_cons_succ]; rfl)), ?_⟩
  refine lb_val (by kernel_rfl) ⟨_, (by (intro w' hC; (obtain ⟨q0, q1, q2, q3, q4, q5⟩ := HQ.out _ (hw15.trans (hC.mono hw15.size))); clear hC; (try go_simp); (try with_reducible rfl); done)), _, (by (simp only [Act.put, List.setIfInBounds_toArray, List.set_cons_zero, List.set_cons_succ]; rfl)), ?_⟩
  refine lb_val (by kernel_rfl) ⟨_, (by (intro w' hC; clear hC; (try go_simp); (try with_reducible rfl); done)), _, (by (simp only [Act.put, List.setIfInBounds_toArray, List.set_cons_zero, List.set_cons_succ]; rfl)), ?_⟩
  refine lb_val (by kernel_rfl) ⟨_, (by (intro w' hC; (obtain ⟨q0, q1, q2, q3, q4, q5⟩ := HQ.out _ (hw15.trans (hC.mono hw15.size))); clear hC; (try go_simp); (try with_reducible rfl); done)), _, (by (simp only [Act.put, List.setIfInBounds_toArray, List.set_cons_zero, List.set_cons_succ]; rfl)), ?_⟩
  refine lb_val (by kernel_rfl) ⟨_, (by (intro w' hC; clear hC; (try go_simp); (try with_reducible rfl); done)), _, (by (simp only [Act.put, List.setIfInBounds_toArray, List.set_cons_zero, List.set_cons_succ]; rfl)), ?_⟩
  refine lb_val (by kernel_rfl) ⟨_, (by (intro w' hC; (obtain ⟨q0, q1, q2, q3, q4, q5⟩ := HQ.out _ (hw15.trans (hC.mono hw15.size))); clear hC; (try go_simp); (try with_reducible rfl); done)), _, (by (simp only [Act.put, List.setIfInBounds_toArray, List.set_cons_zero, List.set_cons_succ]; rfl)), ?_⟩
  refine lb_val (by kernel_rfl) ⟨_, (by (intro w' hC; clear hC; (try go_simp); (try with_reducible rfl); done)), _, (by (simp only [Act.put, List.setIfInBounds_toArray, List.set_cons_zero, List.set_cons_succ]; rfl)), ?_⟩
  refine lb_val (by kernel_rfl) ⟨_, (by (intro w' hC; (obtain ⟨q0, q1, q2, q3, q4, q5⟩ := HQ.out _ (hw15.trans (hC.mono hw15.size))); clear hC; (try go_simp); (try with_reducible rfl); done)), _, (by (simp only [Act.put, List.setIfInBounds_toArray, List.set_cons_zero, List.set_cons_succ]; rfl)), ?_⟩
  refine lb_call (by kernel_rfl) (fun w' hC => HHD.out w' hC) (by (intro w'; go_simp; done)) ⟨_, (by (simp only [Act.put, List.setIfInBounds_toArray, List.set_cons_zero, List.set_cons_succ]; rfl)), ?_⟩
  refine lb_move _ (by kernel_rfl) rfl ⟨_, (by ((try simp [go_sem]); (try rfl); done)), _, (by (simp only [Act.put, List.setIfInBounds_toArray, List.set_cons_zero, List.set_cons_succ]; rfl)), ?_⟩
  refine lb_val (by kernel_rfl) ⟨_, (by (intro w' hC; clear hC; (try go_simp); (try with_reducible rfl); done)), _, (by (simp only [Act.put, List.setIfInBounds_toArray, List.set_cons_zero, List.set_cons_succ]; rfl)), ?_⟩
  refine lb_val (by kernel_rfl) ⟨_, (by (intro w' hC; (obtain ⟨q0, q1, q2, q3, q4, q5⟩ := HQ.out _ (hw15.trans (hC.mono hw15.size))); clear hC; (try go_simp); (try with_reducible rfl); done)), _, (by (simp only [Act.put, List.setIfInBounds_toArray, List.set_cons_zero, List.set_cons_succ]; rfl)), ?_⟩
  refine lb_val (by kernel_rfl) ⟨_, (by (intro w' hC; clear hC; (try go_simp); (try with_reducible rfl); done)), _, (by (simp only [Act.put, List.setIfInBounds_toArray, List.set_cons_zero, List.set_cons_succ]; rfl)), ?_⟩
  refine lb_val (by kernel_rfl) ⟨_, (by (intro w' hC; (obtain ⟨q0, q1, q2, q3, q4, q5⟩ := HQ.out _ (hw15.trans (hC.mono hw15.size))); clear hC; (try go_simp); (try with_reducible rfl); done)), _, (by (simp only [Act.put, List.setIfInBounds_toArray, List.set_cons_zero, List.set_cons_succ]; rfl)), ?_⟩
  refine lb_val (by kernel_rfl) ⟨_, (by (intro w' hC; clear hC; (try go_simp); (try with_reducible rfl); done)), _, (by (simp only [Act.put, List.setIfInBounds_toArray, List.set_cons_zero, List.set_cons_succ]; rfl)), ?_⟩
  refine lb_val (by kernel_rfl) ⟨_, (by (intro w' hC; (obtain ⟨q0, q1, q2, q3, q4, q5⟩ := HQ.out _ (hw15.trans (hC.mono hw15.size))); clear hC; (try go_simp); (try with_reducible rfl); done)), _, (by (simp only [Act.put, List.setIfInBounds_toArray, List.set_cons_zero, List.set_cons_succ]; rfl)), ?_⟩
  refine lb_val (by kernel_rfl) ⟨_, (by (intro w' hC; clear hC; (try go_simp); (try with_reducible rfl); done)), _, (by (simp only [Act.put, List.setIfInBounds_toArray, List.set_cons_zero, List.set_cons_succ]; rfl)), ?_⟩
  refine lb_val (by kernel_rfl) ⟨_, (by (intro w' hC; (obtain ⟨q0, q1, q2, q3, q4, q5⟩ := HQ.out _ (hw15.trans (hC.mono hw15.size))); clear hC; (try go_simp); (try with_reducible rfl); done)), _, (by (simp only [Act.put, List.setIfInBounds_toArray, List.set_cons_zero, List.set_cons_succ]; rfl)), ?_⟩
  refine lb_val (by kernel_rfl) ⟨_, (by (intro w' hC; clear hC; (try go_simp); (try with_reducible rfl); done)), _, (by (simp only [Act.put, List.setIfInBounds_toArray, List.set_cons_zero, List.set_cons_succ]; rfl)), ?_⟩
  refine lb_val (by kernel_rfl) ⟨_, (by (intro w' hC; (obtain ⟨q0, q1, q2, q3, q4, q5⟩ := HQ.out _ (hw15.trans (hC.mono hw15.size))); clear hC; (try go_simp); (try with_reducible rfl); done)), _, (by (simp only [Act.put, List.setIfInBounds_toArray, List.set_cons_zero, List.set_cons_succ]; rfl)), ?_⟩
  refine lb_call (by kernel_rfl) (fun w' hC => HRH.out w' hC) (by (intro w'; go_simp; done)) ⟨_, (by (simp only [Act.put, List.setIfInBounds_toArray, List.set_cons_zero, List.set_cons_succ]; rfl)), ?_⟩
  refine lb_val (by kernel_rfl) ⟨_, (by (intro w' hC; clear hC; (try go_simp); (try with_reducible rfl); done)), _, (by (simp only [Act.put, List.setIfInBounds_toArray, List.set_cons_zero, List.set_cons_succ]; rfl)), ?_⟩
  refine lb_move _ (by kernel_rfl) rfl ⟨_, (by ((try simp [go_sem]); (try rfl); done)), _, (by (simp only [Act.put, List.setIfInBounds_toArray, List.set_cons_zero, List.set_cons_succ]; rfl)), ?_⟩
  first | (refine lb_skip (by rfl) ⟨_, (by (simp only [Act.put, List.setIfInBounds_toArray, List.set_cons_zero, List.set_cons_succ]; rfl)), ?_⟩) | (refine lb_move _ (by kernel_rfl) rfl ⟨_, (by ((try simp [go_sem]); (try rfl); done)), _, (by (simp only [Act.put, List.setIfInBounds_toArray, List.set_cons_zero, List.set_cons_succ]; rfl)), ?_⟩)
  first | (refine lb_skip (by rfl) ⟨_, (by (simp only [Act.put, List.setIfInBounds_toArray, List.set_cons_zero, List.set_cons_succ]; rfl)), ?_⟩) | (refine lb_val (by kernel_rfl) ⟨_, (by (intro w' hC; clear hC; (try go_simp); (try with_reducible rfl); done)), _, (by (simp only [Act.put, List.setIfInBounds_toArray, List.set_cons_zero, List.set_cons_succ]; rfl)), ?_⟩)
  first | (refine lb_skip (by rfl) ⟨_, (by (simp only [Act.put, List.setIfInBounds_toArray, List.set_cons_zero, List.set_cons_succ]; rfl)), ?_⟩) | (refine lb_val (by kernel_rfl) ⟨_, (by (intro w' hC; (obtain ⟨q0, q1, q2, q3, q4, q5⟩ := HQ.out _ (hw15.trans (hC.mono hw15.size))); clear hC; (try go_simp); (try with_reducible rfl); done)), _, (by (simp only [Act.put, List.setIfInBounds_toArray, List.set_cons_zero, List.set_cons_succ]; rfl)), ?_⟩)
  first | (refine lb_skip (by rfl) ⟨_, (by (simp only [Act.put, List.setIfInBounds_toArray, List.set_cons_zero, List.set_cons_succ]; rfl)), ?_⟩) | (refine lb_val (by kernel_rfl) ⟨_, (by (intro w' hC; clear hC; (try go_simp); (try with_reducible rfl); done)), _, (by (simp only [Act.put, List.setIfInBounds_toArray, List.set_cons_zero, List.set_cons_succ]; rfl)), ?_⟩)
  first | (refine lb_skip (by rfl) ⟨_, (by (simp only [Act.put, List.setIfInBounds_toArray, List.set_cons_zero, List.set_cons_succ]; rfl)), ?_⟩) | (refine lb_val (by kernel_rfl) ⟨_, (by (intro w' hC; (obtain ⟨q0, q1, q2, q3, q4, q5⟩ := HQ.out _ (hw15.trans (hC.mono hw15.size))); clear hC; (try go_simp); (try with_reducible rfl); done)), _, (by (simp only [Act.put, List.setIfInBounds_toArray, List.set_cons_zero, List.set_cons_succ]; rfl)), ?_⟩)
  first | (refine lb_skip (by rfl) ⟨_, (by (simp only [Act.put, List.setIfInBounds_toArray, List.set_cons_zero, List.set_cons_succ]; rfl)), ?_⟩) | (refine lb_val (by kernel_rfl) ⟨_, (by (intro w' hC; clear hC; (try go_simp); (try with_reducible rfl); done)), _, (by (simp only [Act.put, List.setIfInBounds_toArray, List.set_cons_zero, List.set_cons_succ]; rfl)), ?_⟩)
  first | (refine lb_skip (by rfl) ⟨_, (by (simp only [Act.put, List.setIfInBounds_toArray, List.set_cons_zero, List.set_cons_succ]; rfl)), ?_⟩) | (refine lb_val (by kernel_rfl) ⟨_, (by (intro w' hC; (obtain ⟨q0, q1, q2, q3, q4, q5⟩ := HQ.out _ (hw15.trans (hC.mono hw15.size))); clear hC; (try go_simp); (try with_reducible rfl); done)), _, (by (simp only [Act.put, List.setIfInBounds_toArray, List.set_cons_zero, List.set_cons_succ]; rfl)), ?_⟩)
  first | (refine lb_skip (by rfl) ⟨_, (by (simp only [Act.put, List.setIfInBounds_toArray, List.set_cons_zero, List.set_cons_succ]; rfl)), ?_⟩) | (refine lb_val (by kernel_rfl) ⟨_, (by (intro w' hC; clear hC; (try go_simp); (try with_reducible rfl); done)), _, (by (simp only [Act.put, List.setIfInBounds_toArray, List.set_cons_zero, List.set_cons_succ]; rfl)), ?_⟩)
  first | (refine lb_skip (by rfl) ⟨_, (by (simp only [Act.put, List.setIfInBounds_toArray, List.set_cons_zero, List.set_cons_succ]; rfl)), ?_⟩) | (refine lb_val (by kernel_rfl) ⟨_, (by (intro w' hC; (obtain ⟨q0, q1, q2, q3, q4, q5⟩ := HQ.out _ (hw15.trans (hC.mono hw15.size))); clear hC; (try go_simp); (try with_reducible rfl); done)), _, (by (simp only [Act.put, List.setIfInBounds_toArray, List.set_cons_zero, List.set_cons_succ]; rfl)), ?_⟩)
  first | (refine lb_skip (by rfl) ⟨_, (by (simp only [Act.put, List.setIfInBounds_toArray, List.set_cons_zero, List.set_cons_succ]; rfl)), ?_⟩) | (refine lb_call (by kernel_rfl) (fun w' hC => HCM.out w' hC) (by (intro w'; go_simp; done)) ⟨_, (by (simp only [Act.put, List.setIfInBounds_toArray, List.set_cons_zero, List.set_cons_succ]; rfl)), ?_⟩)
  first | (refine lb_skip (by rfl) ⟨_, (by (simp only [Act.put, List.setIfInBounds_toArray, List.set_cons_zero, List.set_cons_succ]; rfl)), ?_⟩) | (refine lb_move _ (by kernel_rfl) rfl ⟨_, (by ((try simp [go_sem]); (try rfl); done)), _, (by (simp only [Act.put, List.setIfInBounds_toArray, List.set_cons_zero, List.set_cons_succ]; rfl)), ?_⟩)
  first | (refine lb_skip (by rfl) ⟨_, (by (simp only [Act.put, List.setIfInBounds_toArray, List.set_cons_zero, List.set_cons_succ]; rfl)), ?_⟩) | (refine lb_val (by kernel_rfl) ⟨_, (by (intro w' hC; clear hC; (try go_simp); (try with_reducible rfl); done)), _, (by (simp only [Act.put, List.setIfInBounds_toArray, List.set_cons_zero, List.set_cons_succ]; rfl)), ?_⟩)
  first | (refine lb_skip (by rfl) ⟨_, (by (simp only [Act.put, List.setIfInBounds_toArray, List.set_cons_zero, List.set_cons_succ]; rfl)), ?_⟩) | (refine lb_val (by kernel_rfl) ⟨_, (by (intro w' hC; (obtain ⟨q0, q1, q2, q3, q4, q5⟩ := HQ.out _ (hw15.trans (hC.mono hw15.size))); clear hC; (try go_simp); (try with_reducible rfl); done)), _, (by (simp only [Act.put, List.setIfInBounds_toArray, List.set_cons_zero, List.set_cons_succ]; rfl)), ?_⟩)
  first | (refine lb_skip (by rfl) ⟨_, (by (simp only [Act.put, List.setIfInBounds_toArray, List.set_cons_zero, List.set_cons_succ]; rfl)), ?_⟩) | (refine lb_val (by kernel_rfl) ⟨_, (by (intro w' hC; clear hC; (try go_simp); (try with_reducible rfl); done)), _, (by (simp only [Act.put, List.setIfInBounds_toArray, List.set_cons_zero, List.set_cons_succ]; rfl)), ?_⟩)
  first | (refine lb_skip (by rfl) ⟨_, (by (simp only [Act.put, List.setIfInBounds_toArray, List.set_cons_zero, List.set_cons_succ]; rfl)), ?_⟩) | (refine lb_val (by kernel_rfl) ⟨_, (by (intro w' hC; (obtain ⟨q0, q1, q2, q3, q4, q5⟩ := HQ.out _ (hw15.trans (hC.mono hw15.size))); clear hC; (try go_simp); (try with_reducible rfl); done)), _, (by (simp only [Act.put, List.setIfInBounds_toArray, List.set_cons_zero, List.set_cons_succ]; rfl)), ?_⟩)
  first | (refine lb_skip (by rfl) ⟨_, (by (simp only [Act.put, List.setIfInBounds_toArray, List.set_cons_zero, List.set_cons_succ]; rfl)), ?_⟩) | (refine lb_val (by kernel_rfl) ⟨_, (by (intro w' hC; clear hC; (try go_simp); (try with_reducible rfl); done)), _, (by (simp only [Act.put, List.setIfInBounds_toArray, List.set_cons_zero, List.set_cons_succ]; rfl)), ?_⟩)
  first | (refine lb_skip (by rfl) ⟨_, (by (simp only [Act.put, List.setIfInBounds_toArray, List.set_cons_zero, List.set_cons_succ]; rfl)), ?_⟩) | (refine lb_val (by kernel_rfl) ⟨_, (by (intro w' hC; (obtain ⟨q0, q1, q2, q3, q4, q5⟩ := HQ.out _ (hw15.trans (hC.mono hw15.size))); clear hC; (try go_simp); (try with_reducible rfl); done)), _, (by (simp only [Act.put, List.setIfInBounds_toArray, List.set_cons_zero, List.set_cons_succ]; rfl)), ?_⟩)
  first | (refine lb_skip (by rfl) ⟨_, (by (simp only [Act.put, List.setIfInBounds_toArray, List.set_cons_zero, List.set_cons_succ]; rfl)), ?_⟩) | (refine lb_val (by kernel_rfl) ⟨_, (by (intro w' hC; clear hC; (try go_simp); (try with_reducible rfl); done)), _, (by (simp only [Act.put, List.setIfInBounds_toArray, List.set_cons_zero, List.set_cons_succ]; rfl)), ?_⟩)
  first | (refine lb_skip (by rfl) ⟨_, (by (simp only [Act.put, List.setIfInBounds_toArray, List.set_cons_zero, List.set_cons_succ]; rfl)), ?_⟩) | (refine lb_val (by kernel_rfl) ⟨_, (by (intro w' hC; (obtain ⟨q0, q1, q2, q3, q4, q5⟩ := HQ.out _ (hw15.trans (hC.mono hw15.size))); clear hC; (try go_simp); (try with_reducible rfl); done)), _, (by (simp only [Act.put, List.setIfInBounds_toArray, List.set_cons_zero, List.set_cons_succ]; rfl)), ?_⟩)
  first | (refine lb_skip (by rfl) ⟨_, (by (simp only [Act.put, List.setIfInBounds_toArray, List.set_cons_zero, List.set_cons_succ]; rfl)), ?_⟩) | (refine lb_call (by kernel_rfl) (fun w' hC => HRC.out w' hC) (by (intro w'; go_simp; done)) ⟨_, (by (simp only [Act.put, List.setIfInBounds_toArray, List.set_cons_zero, List.set_cons_succ]; rfl)), ?_⟩)
  first | (refine lb_skip (by rfl) ⟨_, (by (simp only [Act.put, List.setIfInBounds_toArray, List.set_cons_zero, List.set_cons_succ]; rfl)), ?_⟩) | (refine lb_val (by kernel_rfl) ⟨_, (by (intro w' hC; clear hC; (try go_simp); (try with_reducible rfl); done)), _, (by (simp only [Act.put, List.setIfInBounds_toArray, List.set_cons_zero, List.set_cons_succ]; rfl)), ?_⟩)
  refine lb_val (by kernel_rfl) ⟨_, (by (intro w' hC; clear hC; (try go_simp); (try with_reducible rfl); done)), _, (by (simp only [Act.put, List.setIfInBounds_toArray, List.set_cons_zero, List.set_cons_succ]; rfl)), ?_⟩
  refine .nil ?_
  intro w6 hb6
  have hw16 := hw15.trans (hb6.mono hw15.size)
  have hw6 := hw5.trans (hb6.mono hw5.size)
  obtain ⟨q0, q1, q2, q3, q4, q5⟩ := HQ.out w6 hw16
  clear HHD HRH HCM HRC f1 f2
  go_wp2_with fail
  refine (HT1.out w6 hb6).mono ?_
  rintro e w7 ⟨⟨GA, gc, G1, rfl, hG1, hrow1⟩, hb7⟩
  obtain rfl := hG1.out
  have hb57 := hb6.trans (hb7.mono hb6.size)
  have hw17 := hw16.trans (hb7.mono hw16.size)
  have hw7 := hw6.trans (hb7.mono hw6.size)
  clear q0 q1 q2 q3 q4 q5
  obtain ⟨q0, q1, q2, q3, q4, q5⟩ := HQ.out w7 hw17
  go_wp2_with fail
  refine (HT2.out w7 hb57).mono ?_
  rintro e w8 ⟨⟨GB, gd, G2, rfl, hG2, hrow2⟩, hb8⟩
  obtain rfl := hG2.out
  have hw8 := hw7.trans (hb8.mono hw7.size)
  have HR1 := Lib.hid (hrow1.below hb8)
  have HR2 := Lib.hid hrow2
  have hne : ((G2.length : Int) != (G2.length : Int)) = false := by simp
  clear hrow1 hrow2 hG1 hG2 HT1 HT2 q0 q1 q2 q3 q4 q5
  go_wp2_with fail
  clear hne
  go_loopw [12, 123] (fun _ iv wr => ∃ i : Nat, i ≤ G2.length ∧ iv = .int .i64 (i : Int) ∧ Below w8.heap.size w8 wr) (fun _ iv _ => G2.length - (intOf iv).toNat)
  case atStart => exact ⟨0, Nat.zero_le _, rfl, Below.refl _ _⟩
  case round =>
    obtain ⟨i, hi, rfl, hbr⟩ := hrel
    by_cases hlt : i < G2.length
    · obtain ⟨b1, off1, rfl, _, hbb1, hc1⟩ := (HR1.out.below hbr).rd.atm (f := fun (n : Nat) => Value.int .i64 (n : Int)) (l := G2) (k := i) hlt
      obtain ⟨b2, off2, rfl, _, hbb2, hc2⟩ := (HR2.out.below hbr).rd.atm (f := fun (n : Nat) => Value.int .i64 (n : Int)) (l := G2) (k := i) hlt
      generalize G2[i] = gv at *
      have hnv : ((gv : Int) != (gv : Int)) = false := by simp
      go_wp2_with fail
      refine wp_region_b 9 (by kernel_rfl) (by kernel_rfl) ?_
      simp only [List.take_succ_cons, List.take_zero, List.drop_succ_cons, List.drop_zero]
      refine lb_move _ (by kernel_rfl) rfl ⟨_, (by ((try simp [go_sem]); (try rfl); done)), _, (by (simp only [Act.put, List.setIfInBounds_toArray, List.set_cons_zero, List.set_cons_succ]; rfl)), ?_⟩
      refine lb_move _ (by kernel_rfl) rfl ⟨_, (by ((try simp [go_sem]); (try rfl); done)), _, (by (simp only [Act.put, List.setIfInBounds_toArray, List.set_cons_zero, List.set_cons_succ]; rfl)), ?_⟩
      refine lb_val (by kernel_rfl) ⟨_, (by (intro w' hC; clear hC; (try go_simp); (try with_reducible rfl); done)), _, (by (simp only [Act.put, List.setIfInBounds_toArray, List.set_cons_zero, List.set_cons_succ]; rfl)), ?_⟩
      refine lb_val (by kernel_rfl) ⟨_, (by (intro w' hC; (have c0 := cellAt hC hbb1 hc1); clear hC; (try go_simp); (try with_reducible rfl); done)), _, (by (simp only [Act.put, List.setIfInBounds_toArray, List.set_cons_zero, List.set_cons_succ]; rfl)), ?_⟩
      refine lb_move _ (by kernel_rfl) rfl ⟨_, (by ((try simp [go_sem]); (try rfl); done)), _, (by (simp only [Act.put, List.setIfInBounds_toArray, List.set_cons_zero, List.set_cons_succ]; rfl)), ?_⟩
      refine lb_move _ (by kernel_rfl) rfl ⟨_, (by ((try simp [go_sem]); (try rfl); done)), _, (by (simp only [Act.put, List.setIfInBounds_toArray, List.set_cons_zero, List.set_cons_succ]; rfl)), ?_⟩
      refine lb_val (by kernel_rfl) ⟨_, (by (intro w' hC; clear hC; (try go_simp); (try with_reducible rfl); done)), _, (by (simp only [Act.put, List.setIfInBounds_toArray, List.set_cons_zero, List.set_cons_succ]; rfl)), ?_⟩
      refine lb_val (by kernel_rfl) ⟨_, (by (intro w' hC; (have c0 := cellAt hC hbb2 hc2); clear hC; (try go_simp); (try with_reducible rfl); done)), _, (by (simp only [Act.put, List.setIfInBounds_toArray, List.set_cons_zero, List.set_cons_succ]; rfl)), ?_⟩
      refine lb_val (by kernel_rfl) ⟨_, (by (intro w' hC; clear hC; (try go_simp); (try with_reducible rfl); done)), _, (by (simp only [Act.put, List.setIfInBounds_toArray, List.set_cons_zero, List.set_cons_succ]; rfl)), ?_⟩
      refine .nil ?_
      intro w9 hb9
      have hr9 := hbr.trans (hb9.mono hbr.size)
      clear hnv hc1 hc2
      go_wp2_with fail
      go_roundw
      case rel => exact ⟨i + 1, hlt, by go_num, hr9⟩
      case measure => simp [intOf]; omega
    · have e : i = G2.length := by omega
      subst e
      have hwr := hw8.trans (hbr.mono hw8.size)
      go_wp2_with fail
      refine (lives42_any _).mono ?_
      rintro e w9 ⟨rfl, hb9⟩
      go_wp2_with fail
      go_ret
      exact ⟨rfl, hwr.trans (hb9.mono hwr.size)⟩

end Go.Proofs.YtdnljmncdbcgeaaGreat
