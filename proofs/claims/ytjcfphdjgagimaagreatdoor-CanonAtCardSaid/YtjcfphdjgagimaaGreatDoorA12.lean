/- canon.At. -/
import Derived.Test.YtjcfphdjgagimaaGreatDoorA11

namespace Go.Proofs.YtjcfphdjgagimaaGreatDoor
open Go.RowKit Go.Maps

theorem kids9_any (tb : Nat) (mo : Option Nat) (L : List (List UInt8 × LV)) (p : List UInt8) (w : World) (h : TreeAt w tb mo L) :
    Calls Tryz.prog 42 #[.pointer (some ⟨tb, 0, none⟩), .string ⟨⟨p⟩⟩] w fun e w' => TxtOwn w' w.heap.size e ((keysR L).filter fun q => (parT q).1 == p) ∧ Below w.heap.size w w' := by
  have HT := Lib.hid h
  clear h
  go_enter Tryz.func42, Tryz.ntmps42
  go_wp2_with fail
  refine (treeKids_any sortsT tb mo L p w HT.out).mono ?_
  rintro e w1 ⟨⟨A, c, l, rfl, hl, ho⟩, hb⟩
  go_wp2_with fail
  go_ret
  exact ⟨⟨A, c, l, rfl, hl, ho⟩, hb⟩

set_option maxRecDepth 100000 in
set_option maxHeartbeats 4000000 in
theorem atW_any (T : List (List UInt8 × LP)) (hok : TreeOk T) : ∀ (n : Nat) (p : List UInt8) (tb : Nat) (mo : Option Nat) (K : List (List UInt8 × LV)) (w : World), TreeAt w tb mo K → Hid (plainL K = T) → Globs w → p.length ≤ 100 → 101 ≤ p.length + n →
    Calls Tryz.prog 16 #[.pointer (some ⟨tb, 0, none⟩), .string ⟨⟨p⟩⟩] w fun e w' => e = .returned (.agg ((atS T n p).map bv).toArray) ∧ Below w.heap.size w w'
  | 0, p, tb, mo, K, w, hI, hM, hG, hp, hn => by omega
  | n + 1, p, tb, mo, K, w, hI, hM, hG, hp, hn => by
    have ih := Lib.hid (fun (q : List UInt8) (W : World) (hW : Below w.heap.size w W) (h1 : q.length ≤ 100) (h2 : 101 ≤ q.length + n) => atW_any T hok n q tb mo K W (hI.below hW) hM (hG.below hW) h1 h2)
    have x0 : Blk (w.alloc (.cells #[.int .u8 0, .int .u8 0, .int .u8 0, .int .u8 0, .int .u8 0, .int .u8 0, .int .u8 0, .int .u8 0, .int .u8 0, .int .u8 0, .int .u8 0, .int .u8 0, .int .u8 0, .int .u8 0, .int .u8 0, .int .u8 0, .int .u8 0, .int .u8 0, .int .u8 0, .int .u8 0, .int .u8 0, .int .u8 0, .int .u8 0, .int .u8 0, .int .u8 0, .int .u8 0, .int .u8 0, .int .u8 0, .int .u8 0, .int .u8 0, .int .u8 0, .int .u8 0] 37)) w.heap.size 37 (((List.replicate 32 (0 : UInt8)).map bv).toArray) := Blk.new w 37 #[.int .u8 0, .int .u8 0, .int .u8 0, .int .u8 0, .int .u8 0, .int .u8 0, .int .u8 0, .int .u8 0, .int .u8 0, .int .u8 0, .int .u8 0, .int .u8 0, .int .u8 0, .int .u8 0, .int .u8 0, .int .u8 0, .int .u8 0, .int .u8 0, .int .u8 0, .int .u8 0, .int .u8 0, .int .u8 0, .int .u8 0, .int .u8 0, .int .u8 0, .int .u8 0, .int .u8 0, .int .u8 0, .int .u8 0, .int .u8 0, .int .u8 0, .int .u8 0]
    have hw1 : Below w.heap.size w (w.alloc (.cells #[.int .u8 0, .int .u8 0, .int .u8 0, .int .u8 0, .int .u8 0, .int .u8 0, .int .u8 0, .int .u8 0, .int .u8 0, .int .u8 0, .int .u8 0, .int .u8 0, .int .u8 0, .int .u8 0, .int .u8 0, .int .u8 0, .int .u8 0, .int .u8 0, .int .u8 0, .int .u8 0, .int .u8 0, .int .u8 0, .int .u8 0, .int .u8 0, .int .u8 0, .int .u8 0, .int .u8 0, .int .u8 0, .int .u8 0, .int .u8 0, .int .u8 0, .int .u8 0] 37)) := (Below.refl _ _).alloc (Nat.le_refl _) _
    have HI := Lib.hid hI
    have HOK := Lib.hid hok
    obtain ⟨R, hR⟩ : ∃ R, R = atS T (n + 1) p := ⟨_, rfl⟩
    rw [← hR]
    have HR := Lib.hid hR
    have HRL : Hid (R.length = 32) := Lib.hid (by rw [hR]; exact atS_len T n p)
    clear hR hI hok
    have hgl2 := hG.lt
    go_enter Tryz.func16, Tryz.ntmps16
    go_upto_region 1 with (fail)
    generalize (w.alloc (.cells #[.int .u8 0, .int .u8 0, .int .u8 0, .int .u8 0, .int .u8 0, .int .u8 0, .int .u8 0, .int .u8 0, .int .u8 0, .int .u8 0, .int .u8 0, .int .u8 0, .int .u8 0, .int .u8 0, .int .u8 0, .int .u8 0, .int .u8 0, .int .u8 0, .int .u8 0, .int .u8 0, .int .u8 0, .int .u8 0, .int .u8 0, .int .u8 0, .int .u8 0, .int .u8 0, .int .u8 0, .int .u8 0, .int .u8 0, .int .u8 0, .int .u8 0, .int .u8 0] 37)) = w1 at *
    go_wp2_with fail
    refine (treeGetP (HI.out.below hw1) hM p (by omega)).mono ?_
    rintro e w2 ⟨⟨A2, c2, l2, rfl, hl2, hy2⟩, hb2⟩
    obtain ⟨k, hk⟩ : ∃ k, k = kindL (getR T p) := ⟨_, rfl⟩
    rw [← hk]
    have HK := Lib.hid hk
    have hw2 := hw1.trans (hb2.mono hw1.size)
    have hlk : l2.length ≤ 4096 ∧ (k = 0 ∨ k = 1 ∨ k = 2) := by
      rw [hl2.out, hk]
      rcases hg : getR T p with _ | v
      · exact ⟨by simp [dataL], .inl rfl⟩
      · have h1 := HOK.out.good _ (getR_mem hg)
        exact ⟨checkN_small h1.2.2, .inr h1.2.1⟩
    obtain ⟨hl2l, hkk⟩ := hlk
    have hba : Below w2.heap.size w2 (w2.alloc (.cells #[.int .i64 k, .slice A2 l2.length c2] 46)) := (Below.refl _ _).alloc (Nat.le_refl _) _
    have z0 := Blk.new w2 46 #[.int .i64 k, .slice A2 l2.length c2]
    have hw3 := hw2.trans (hba.mono hw2.size)
    have X3 := Lib.hid ((x0.below hb2).below hba)
    have HY3 := Lib.hid ((BV.ok.of_own' hy2).below hba)
    clear hk x0 hb2 hy2 hba
    go_upto_region 2 with (fail)
    obtain ⟨lb, hlb⟩ : ∃ lb, lb = w2.heap.size := ⟨_, rfl⟩
    rw [← hlb] at z0 ⊢
    generalize w2.alloc (.cells #[.int .i64 k, .slice A2 l2.length c2] 46) = w3 at *
    have hlbl := z0.lt
    have q0 := z0.cell 0
    have q1 := z0.cell 1
    simp only [List.getElem?_toArray, List.getElem?_cons_zero, List.getElem?_cons_succ] at q0 q1
    have hw3s := hw3.size
    have x3lt : Hid (w.heap.size < w3.heap.size) := Lib.hid X3.out.lt
    clear hlb z0
    by_cases hc : p ≠ [] ∧ k ≠ 2
    · obtain ⟨hpn, hk2⟩ := hc
      have hpb : (p != []) = true := by simpa using hpn
      have hpb2 : (p == []) = false := by simpa using hpn
      have hkb : (k != 2) = true := by simpa using hk2
      have HRE : Hid (R = shaS (leafB k l2)) := Lib.hid (by rw [HR.out, atS_leaf ⟨hpn, by rw [← HK.out]; exact hk2⟩, ← HK.out, ← hl2.out])
      have hbl := leafB_len k l2
      have HPN := Lib.hid (Pen.new w3 (base := w.heap.size))
      have hb4 : Below w3.heap.size w3 (w3.alloc (.cells #[.slice none 0 0] 55)) := (Below.refl _ _).alloc (Nat.le_refl _) _
      have hw4 := hw3.trans (hb4.mono hw3s)
      have X4 := Lib.hid (X3.out.below hb4)
      have r0 := cell_later hb4 q0
      have r1 := cell_later hb4 q1
      have hlb4 := Nat.lt_of_lt_of_le hlbl hb4.size
      have HY4 := Lib.hid ((HY3.out.mono (Z' := fun b => b < w3.heap.size) (fun b hb _ => hb)).below hb4)
      clear hpn hk2
      go_upto_region 4 with (fail)
      clear q0 q1
      obtain ⟨pn, hpnn⟩ : ∃ pn, pn = w3.heap.size := ⟨_, rfl⟩
      rw [← hpnn] at HPN ⊢
      generalize w3.alloc (.cells #[.slice none 0 0] 55) = w4 at *
      have hpn3 : w.heap.size < pn := by have := x3lt.out; omega
      have HPNN := Lib.hid hpnn
      clear hpnn hb4
      have hbL : Below w4.heap.size w4 (w4.alloc (.cells #[.int .i64 k, .slice A2 l2.length c2] 46)) := (Below.refl _ _).alloc (Nat.le_refl _) _
      have hw5 := hw4.trans (hbL.mono hw4.size)
      go_wp2_with fail
      refine (leafWrite_any w.heap.size pn (.slice none 0 0) [] _ _ [⟨k, ⟨A2, c2, l2⟩⟩] (fun b => b ≠ pn) _ (HPN.out.alloc _) ((Rd.lit (w := w4) (xs := LV.cells ⟨k, ⟨A2, c2, l2⟩⟩) (n := 1) (size := 2) rfl rfl rfl).mono (fun b _ hb => by have := HPN.out.blk.lt; have : w4.heap.size ≤ b := hb; omega)) ?_ ?_ ?_ ?_).mono ?_
      · intro y hy
        obtain rfl := List.mem_singleton.1 hy
        exact BV.ok.mono (BV.ok.below (w := w4) HY4.out hbL) (fun b _ hb => by have : b < w3.heap.size := hb; have := HPNN.out; omega)
      · rintro b' _ hb' (e | e)
        · exact hb' e
        · simp [Value.ownBlock] at e
      · exact hw5.size
      · have hwl : wideL [⟨k, ⟨A2, c2, l2⟩⟩] = 18 + l2.length := by simp [wideL]
        simp only [List.length_nil]
        omega
      rintro e w6 ⟨rfl, v6, h6⟩
      rw [List.nil_append, List.flatMap_cons, List.flatMap_nil, List.append_nil] at h6
      have hw6 := hw5.trans (h6.fr.below (B := w.heap.size) hw5.size (fun k9 hk9 e => by
        rcases e with e | e
        · omega
        · simp [Value.ownBlock] at e))
      have X6 := Lib.hid ((X4.out.below hbL).fr h6.fr (fun e => by
        rcases e with e | e
        · omega
        · simp [Value.ownBlock] at e))
      have HP6 := Lib.hid h6.pen
      clear h6 hbL r0 r1
      go_wp2_with fail
      refine (Bytes_any w.heap.size pn v6 (leafB k l2) w6 HP6.out (by omega)).mono ?_
      rintro e w7 ⟨A7, c7, l7, rfl, hl7, ho7, hb7⟩
      have hl7l : l7.length ≤ 10000 := by rw [hl7.out]; omega
      have hw7 := hw6.trans (hb7.mono hw6.size)
      have HS := sumB_any A7 c7 l7 _ w7 (BV.ok.of_own' ho7) (hG.below hw7) (by omega)
      rw [hl7.out, ← HRE.out] at HS
      replace HS := Lib.hid HS
      rw [hl7.out]
      have X7 := Lib.hid (X6.out.below hb7)
      clear ho7 hb7
      go_wp2_with fail
      refine HS.out.mono ?_
      rintro e w8 ⟨rfl, hb8⟩
      have hw8 := hw7.trans (hb8.mono hw7.size)
      have x8 := X7.out.below hb8
      clear HS hb8
      have hRl : R.length = 32 := HRL.out
      have hsz : (R.map bv).toArray.size = 32 := by simp [hRl]
      have HSI : Hid ((Tryz.prog.info? 37).map (·.size) = some (R.map bv).toArray.size) := Lib.hid (by rw [hsz]; kernel_rfl)
      have HSZ : Hid ((((List.replicate 32 (0 : UInt8)).map bv).toArray).size = (R.map bv).toArray.size) := Lib.hid (by rw [hsz]; rfl)
      have HO : Hid (((R.map bv).toArray).all (·.oneCell') = true) := Lib.hid (by
        rw [List.all_toArray, List.all_eq_true]
        exact fun u hu => bv_one R u hu)
      have hwE := hw8.trans (((Fr.refl (fun x => x = w.heap.size) w8).setRow w.heap.size rfl (R.map bv).toArray).below (B := w.heap.size) hw8.size (fun k hk e => by omega))
      clear hsz hRl
      go_wp2_with (refine wpList_store_row rfl 37 _ _ rfl w.heap.size _ rfl rfl 37 _ x8 HSI.out HSZ.out HO.out ?_)
      refine bodyPost_ret (results_cell_row Tryz.results16 _ _ w.heap.size 37 _ (0, 0) _ rfl (x8.setRow _) Tryz.underlying37 rfl HSI.out) rfl ?_
      exact ⟨rfl, hwE⟩
    · have HRE : Hid (R = shaS (partsS ([100, 105, 114] :: (kidsS T p).flatMap fun q => [lastC q, atS T n q]))) := Lib.hid (by rw [HR.out, atS_dir (by rw [← HK.out]; exact hc)])
      have hcc : (p != [] && k != 2) = false := by
        rcases Decidable.not_and_iff_or_not.1 hc with h | h
        · simp at h; simp [h]
        · simp at h; simp [h]
      have hpk : p = [] ∨ k = 2 := by
        rcases Decidable.not_and_iff_or_not.1 hc with h | h
        · exact .inl (by simpa using h)
        · exact .inr (by simpa using h)
      have hpk : (p = [] ∧ (p != []) = false ∧ (p == []) = true) ∨ ((p != []) = true ∧ (p == []) = false ∧ (k != 2) = false) := by
        by_cases hp0 : p = []
        · exact .inl ⟨hp0, by simp [hp0], by simp [hp0]⟩
        · refine .inr ⟨by simpa using hp0, by simpa using hp0, ?_⟩
          rcases hpk with h | h
          · exact absurd h hp0
          · simp [h]
      clear hcc hc hl2 HK HR
      have kc := dir_conv w3
      have hb4 : Below w3.heap.size w3 (w3.alloc (.cells #[.int .u8 100, .int .u8 105, .int .u8 114] 5 (3, 4))) := (Below.refl _ _).alloc (Nat.le_refl _) _
      have hz4 : (w3.alloc (.cells #[.int .u8 100, .int .u8 105, .int .u8 114] 5 (3, 4))).heap.size = w3.heap.size + 1 := by simp
      have hP0 := PtOwn.lit1 (w3.alloc (.cells #[.int .u8 100, .int .u8 105, .int .u8 114] 5 (3, 4))) ⟨some ⟨w3.heap.size, 0, none⟩, 3, [100, 105, 114]⟩ w.heap.size (by omega) ⟨(dir_by w3).mono (fun _ _ _ => trivial), Nat.le_refl 3, show (3 : Nat) ≤ maxLen by decide⟩
      have hb5 := ((Below.refl (w3.alloc (.cells #[.int .u8 100, .int .u8 105, .int .u8 114] 5 (3, 4))).heap.size (w3.alloc (.cells #[.int .u8 100, .int .u8 105, .int .u8 114] 5 (3, 4)))).alloc (Nat.le_refl _) (.cells #[.slice (some ⟨w3.heap.size, 0, none⟩) 3 3] 29))
      have hw5 := (hw3.trans (hb4.mono hw3s)).trans (hb5.mono (by omega))
      have X5 := Lib.hid ((X3.out.below hb4).below hb5)
      rw [hz4] at hP0
      obtain ⟨pb, hpb⟩ : ∃ pb, pb = w3.heap.size + 1 := ⟨_, rfl⟩
      rw [← hpb] at hP0
      have hpbw : w.heap.size < pb := by omega
      have hpb5 : pb < ((w3.alloc (.cells #[.int .u8 100, .int .u8 105, .int .u8 114] 5 (3, 4))).alloc (.cells #[.slice (some ⟨w3.heap.size, 0, none⟩) 3 3] 29)).heap.size := by simp; omega
      have HP0 := Lib.hid hP0
      clear hb4 hz4 hP0 hb5 X3 HY3 x3lt
      rcases hpk with ⟨hp0, hp1, hp2⟩ | ⟨hp1, hp2, hp3⟩
      · clear hp0
        go_upto_region 7 with (fail)
        rw [← hpb]
        generalize (w3.alloc (.cells #[.int .u8 100, .int .u8 105, .int .u8 114] 5 (3, 4))).alloc (.cells #[.slice (some ⟨w3.heap.size, 0, none⟩) 3 3] 29) = w5 at *
        clear kc q0 q1 hpb
        have HK5 := Lib.hid (kids9_any tb mo K p w5 (HI.out.below hw5))
        go_wp2_with fail
        refine HK5.out.mono ?_
        rintro e w6 ⟨⟨A6, c6, l6, rfl, hl6, ho6⟩, hb6⟩
        have hl6k : Hid (l6 = kidsS T p) := Lib.hid (by rw [hl6.out, ← keys_plain, hM.out]; rfl)
        have hl6n : l6.length ≤ 128 := by rw [hl6k.out]; exact kids_count HOK.out p
        have hkb := (own_form ho6)
        have HKZ : Hid (Rd w6 (fun b => b ≠ pb) 1 A6 l6.length (l6.map stv)) := Lib.hid (Rd.of_own ho6 (fun b hb _ e => by
          obtain ⟨A', c', e1, _, _, h3, _⟩ := hkb
          injection e1 with e1
          subst e1
          have := (h3 b hb).1
          omega))
        have hw6 := hw5.trans (hb6.mono hw5.size)
        have HP6 := Lib.hid (HP0.out.below hb6)
        have hG6 := Lib.hid (hG.below hw6)
        have X6 := Lib.hid (X5.out.below hb6)
        have hpb6 := Nat.lt_of_lt_of_le hpb5 hb6.size
        clear hkb hl6 ho6 hb6 HK5 HP0 X5 hpb5
        go_wp2_with fail
        go_loopw [7, 33] (fun pv iv wr => ∃ (i : Nat) (A' : Option Addr) (c' : Nat) (L : List BV), i ≤ l6.length ∧ iv = .int .i64 (i : Int) ∧ pv = .slice A' L.length c' ∧ PtOwn wr w.heap.size A' c' L ∧ Hid (L.map (·.l) = [100, 105, 114] :: ((l6.take i).flatMap fun q => [lastC q, atS T n q])) ∧ Hid (L.length = 1 + 2 * i) ∧ Hid (∀ x ∈ L, x.l.length ≤ 1000) ∧ ((Value.slice A' L.length c').ownBlock = some pb ∨ ∃ g, (Value.slice A' L.length c').ownBlock = some g ∧ w6.heap.size ≤ g) ∧ Fr (fun x => x = pb) w6 wr) (fun _ iv _ => l6.length - (intOf iv).toNat)
        case atStart => exact ⟨0, some ⟨pb, 0, none⟩, 1, [⟨some ⟨w3.heap.size, 0, none⟩, 3, [100, 105, 114]⟩], Nat.zero_le _, rfl, rfl, HP6.out, Lib.hid (by simp), Lib.hid rfl, Lib.hid (by simp), .inl rfl, Fr.refl _ _⟩
        case round =>
          clear HP6
          obtain ⟨i, A', c', L, hi, rfl, rfl, hpt, hml, hLl, hsm, how, hf⟩ := hrel
          have hwr : Below w.heap.size w wr := hw6.trans (hf.below (B := w.heap.size) hw6.size (fun k hk e => by omega))
          have hkr := HKZ.out.fr hf (fun b _ hz e => hz e)
          have hL3 : L.length ≤ 300 := by have := hLl.out; omega
          have hfs := hf.size
          by_cases hlt : i < l6.length
          · have hlti : (i : Int) < (l6.length : Int) := by omega
            obtain ⟨g, o, hA, hzg, hgl, hcq⟩ := hkr.atm hlt
            have hqm : l6[i] ∈ kidsS T p := by rw [← hl6k.out]; exact List.getElem_mem hlt
            obtain ⟨k1, k2, k3⟩ := kids_more HOK.out hqm
            have hsn : ((l6.take (i + 1)).flatMap fun q => [lastC q, atS T n q]) = ((l6.take i).flatMap fun q => [lastC q, atS T n q]) ++ [lastC l6[i], atS T n l6[i]] := by
              rw [List.take_succ_eq_append_getElem hlt, List.flatMap_append]
              simp
            generalize l6[i] = q at hcq hqm k1 k2 k3 hsn
            have hcs : wr.cell? ⟨g, o + i, none⟩ = some (.string ⟨⟨q⟩⟩) := hcq
            have HIH := ih.out q wr hwr (by omega) (by omega)
            obtain ⟨D, hD⟩ : ∃ D, D = atS T n q := ⟨_, rfl⟩
            rw [← hD] at HIH hsn
            have hDl : D.length = 32 := by
              obtain ⟨m, hm⟩ : ∃ m, n = m + 1 := ⟨n - 1, by omega⟩
              rw [hD, hm]
              exact atS_len T m q
            replace HIH := Lib.hid HIH
            have HSN := Lib.hid hsn
            have HDL := Lib.hid hDl
            have hsz : (D.map bv).toArray.size = 32 := by simp [hDl]
            have HSI : Hid ((Tryz.prog.info? 37).map (·.size) = some (D.map bv).toArray.size) := Lib.hid (by rw [hsz]; kernel_rfl)
            have HSZ : Hid ((#[.int .u8 0, .int .u8 0, .int .u8 0, .int .u8 0, .int .u8 0, .int .u8 0, .int .u8 0, .int .u8 0, .int .u8 0, .int .u8 0, .int .u8 0, .int .u8 0, .int .u8 0, .int .u8 0, .int .u8 0, .int .u8 0, .int .u8 0, .int .u8 0, .int .u8 0, .int .u8 0, .int .u8 0, .int .u8 0, .int .u8 0, .int .u8 0, .int .u8 0, .int .u8 0, .int .u8 0, .int .u8 0, .int .u8 0, .int .u8 0, .int .u8 0, .int .u8 0] : Array Value).size = (D.map bv).toArray.size) := Lib.hid (by rw [hsz]; rfl)
            have HO : Hid (((D.map bv).toArray).all (·.oneCell') = true) := Lib.hid (by
              rw [List.all_toArray, List.all_eq_true]
              exact fun u hu => bv_one D u hu)
            have HPT := Lib.hid hpt
            have HF := Lib.hid hf
            have hlast := cut_last_len q
            subst hA
            clear hD hsn hDl hsz hqm k3 hpt hf hkr hcq hzg
            go_wp2_with fail
            refine HIH.out.mono ?_
            rintro e w7 ⟨rfl, hb7⟩
            have hb7s := hb7.size
            go_upto_region 11 with (refine wpList_store_row rfl 37 _ _ rfl w7.heap.size _ rfl rfl 37 _ (heap_alloc_last w7 _) HSI.out HSZ.out HO.out ?_)
            rw [World.setRow_alloc_new]
            have hba : Below w7.heap.size w7 (w7.alloc (.cells (D.map bv).toArray 37)) := (Below.refl _ _).alloc (Nat.le_refl _) _
            have hb8 : Below wr.heap.size wr (w7.alloc (.cells (D.map bv).toArray 37)) := hb7.trans (hba.mono hb7s)
            have YB := Blk.new w7 37 (D.map bv).toArray
            obtain ⟨ab, hab⟩ : ∃ ab, ab = w7.heap.size := ⟨_, rfl⟩
            rw [← hab] at YB ⊢
            generalize w7.alloc (.cells (D.map bv).toArray 37) = w8 at *
            have habr : wr.heap.size ≤ ab := by omega
            have hab8 := YB.lt
            have HYB := Lib.hid YB
            clear HIH HSI HSZ HO hba hab YB hcs hb7 hb7s hgl
            obtain ⟨kk, hkk1, hkk2, hkk3⟩ := last_part ⟨⟨q⟩⟩
            obtain ⟨la, hlaq⟩ : ∃ la, la = lastC q := ⟨_, rfl⟩
            rw [← hlaq] at hlast
            have hss : ∀ W, (Instr.slice 9 (.string ⟨⟨q⟩⟩) (some (.int .i64 (kk : Int))) none none).run Tryz.prog W = .ok (.string ⟨⟨la⟩⟩) W := fun W => by
              rw [run_slice_string_l W 9 ⟨⟨q⟩⟩ Tryz.underlying9 .i64 (kk : Int) (by omega) (by have := hkk2; omega)]
              congr 2
              have e1 : tl ((⟨⟨q⟩⟩ : ByteArray).extract (Int.toNat (kk : Int)) (⟨⟨q⟩⟩ : ByteArray).size) = la := by
                rw [hlaq, ← show (tl ⟨⟨q⟩⟩).drop kk = lastC q from hkk3, Int.toNat_natCast]
                simp only [tl, ByteArray.data_extract, Array.toList_extract, List.extract_eq_take_drop]
                rw [List.take_of_length_le (by simp [ByteArray.size])]
              rw [← e1]
            have HLI := Lib.hid (fun W => Tryz.strings_LastIndexByte ⟨⟨q⟩⟩ 47 (by show q.length < _; omega) W)
            obtain ⟨li, hli⟩ : ∃ li, li = Lib.lastIndexByte ⟨⟨q⟩⟩ 47 := ⟨_, rfl⟩
            rw [← hli] at HLI hkk1
            have hkkw : IntKind.i64.wrap (li + 1) = (kk : Int) := by
              have h96 : kk ≤ q.length := hkk2
              rw [hkk1]
              exact IntWalk.i64_in _ ⟨by omega, by omega⟩
            have HLA := Lib.hid hlaq
            have hb8d := hb8.drew
            obtain ⟨cv, W10, hcv, hby, hcv1, hcv2, hlow, hs10⟩ := conv_str w8.drew la (by simp only [maxLen]; omega)
            have hs89 : w8.drew.heap.size = w8.heap.size := rfl
            rw [hs89] at hcv hby hs10
            have hb10 : Below wr.heap.size wr W10 := hb8d.trans (hlow.mono hb8d.size)
            have hq8 : Below w8.heap.size w8 w8 := Below.refl _ _
            have hq10 : Below w8.heap.size w8 W10 := hq8.drew.trans hlow
            have hYB10 := HYB.out.below hq10
            have e2x : ([(⟨some ⟨w8.heap.size, 0, none⟩, cv, la⟩ : BV), (⟨some ⟨ab, 0, none⟩, 32, D⟩ : BV)].map BV.v).toArray = #[.slice (some ⟨w8.heap.size, 0, none⟩) la.length cv, .slice (some ⟨ab, 0, none⟩) 32 32] := by simp [BV.v, HDL.out]
            have hbL : Below W10.heap.size W10 (W10.alloc (.cells #[.slice (some ⟨w8.heap.size, 0, none⟩) la.length cv, .slice (some ⟨ab, 0, none⟩) 32 32] 29)) := (Below.refl _ _).alloc (Nat.le_refl _) _
            have hq11 := hq10.trans (hbL.mono hq10.size)
            have hb11 : Below wr.heap.size wr (W10.alloc (.cells #[.slice (some ⟨w8.heap.size, 0, none⟩) la.length cv, .slice (some ⟨ab, 0, none⟩) 32 32] 29)) := hb10.trans (hbL.mono hb10.size)
            have hpt11 := HPT.out.below hb11
            have hli11 := Rd.lit2 W10 [(⟨some ⟨w8.heap.size, 0, none⟩, cv, la⟩ : BV), (⟨some ⟨ab, 0, none⟩, 32, D⟩ : BV)]
            rw [e2x] at hli11
            have h8s := hb8.size
            have hok11 : ∀ x ∈ [(⟨some ⟨w8.heap.size, 0, none⟩, cv, la⟩ : BV), (⟨some ⟨ab, 0, none⟩, 32, D⟩ : BV)], x.ok (W10.alloc (.cells #[.slice (some ⟨w8.heap.size, 0, none⟩) la.length cv, .slice (some ⟨ab, 0, none⟩) 32 32] 29)) (fun b => (Value.slice A' L.length c').ownBlock ≠ some b) := fun x hx => by
              rcases List.mem_cons.1 hx with rfl | hx
              · refine BV.ok.mono (BV.ok.below (w := W10) ⟨hby, hcv1, hcv2⟩ hbL) (fun b _ hb e => ?_)
                have h7 := (World.ownsRow.lt HPT.out.row b e).2
                have h8 : b = w8.heap.size := hb
                omega
              · rw [List.mem_singleton.1 hx]
                refine ⟨(array_by (hYB10.below hbL)).mono (fun b _ hb e => ?_), by show D.length ≤ 32; rw [HDL.out]; exact Nat.le_refl _, show (32 : Nat) ≤ maxLen by decide⟩
                have h7 := (World.ownsRow.lt HPT.out.row b e).2
                have h8 : b = ab := hb
                omega
            have hs11 : w.heap.size ≤ (W10.alloc (.cells #[.slice (some ⟨w8.heap.size, 0, none⟩) la.length cv, .slice (some ⟨ab, 0, none⟩) 32 32] 29)).heap.size := Nat.le_trans hwr.size hb11.size
            have hF11 : Fr (fun x => x = pb) w6 (W10.alloc (.cells #[.slice (some ⟨w8.heap.size, 0, none⟩) la.length cv, .slice (some ⟨ab, 0, none⟩) 32 32] 29)) := HF.out.then_below hb11
            clear hlaq hby hlow hs10 hkk1 hkk2 hkk3 hli hs89 e2x
            refine wp_region_p [(0, true), (1, true), (2, true), (7, true), (3, false), (4, true), (5, true), (6, false), (8, false)] (fun W => Below w8.heap.size w8 W) (by kernel_rfl) (by kernel_rfl) ?_
            simp only [List.map_cons, List.map_nil, List.filterMap_cons, List.filterMap_nil, List.getElem?_cons_zero, List.getElem?_cons_succ, List.length_cons, List.length_nil, Nat.zero_add, Nat.reduceAdd, List.drop_succ_cons, List.drop_zero]
            refine mx_move _ (by kernel_rfl) rfl ⟨_, (by ((try simp [go_sem]); (try rfl); done)), _, (by (simp only [Act.put, List.setIfInBounds_toArray, List.set_cons_zero, List.set_cons_succ]; rfl)), ?_⟩
            refine mx_move _ (by kernel_rfl) rfl ⟨_, (by ((try simp [go_sem]); (try rfl); done)), _, (by (simp only [Act.put, List.setIfInBounds_toArray, List.set_cons_zero, List.set_cons_succ]; rfl)), ?_⟩
            refine mx_move _ (by kernel_rfl) rfl ⟨_, (by ((try simp [go_sem]); (try rfl); done)), _, (by (simp only [Act.put, List.setIfInBounds_toArray, List.set_cons_zero, List.set_cons_succ]; rfl)), ?_⟩
            refine mx_val (by kernel_rfl) ⟨_, (by (intro w' hC; clear hC; (try go_simp); (try with_reducible rfl); done)), _, (by (simp only [Act.put, List.setIfInBounds_toArray, List.set_cons_zero, List.set_cons_succ]; rfl)), ?_⟩
            refine mx_call (hq8.drew) (by kernel_rfl) ?_ (HLI.out _) ?_
            · (go_simp; done)
            rintro e w2 ⟨rfl, rfl⟩
            refine ⟨_, rfl, _, (by (simp only [Act.put, List.setIfInBounds_toArray, List.set_cons_zero, List.set_cons_succ]; rfl)), ?_⟩
            refine mx_val (by kernel_rfl) ⟨_, (by (intro w' hC; clear hC; (try go_simp); (try with_reducible rfl); done)), _, (by (simp only [Act.put, List.setIfInBounds_toArray, List.set_cons_zero, List.set_cons_succ]; rfl)), ?_⟩
            refine mx_val (by kernel_rfl) ⟨_, (by (intro w' hC; clear hC; (try go_simp); (try with_reducible rfl); done)), _, (by (simp only [Act.put, List.setIfInBounds_toArray, List.set_cons_zero, List.set_cons_succ]; rfl)), ?_⟩
            refine mx_alone (hq8.drew) (by kernel_rfl) ⟨_, _, (by (go_simp; first | done | exact ⟨rfl, rfl⟩)), _, (by (simp only [Act.put, List.setIfInBounds_toArray, List.set_cons_zero, List.set_cons_succ]; rfl)), ?_⟩
            refine mx_alone (hq10) (by kernel_rfl) ⟨_, _, (by (go_simp; first | done | exact ⟨rfl, rfl⟩)), _, (by (simp only [Act.put, List.setIfInBounds_toArray, List.set_cons_zero, List.set_cons_succ]; rfl)), ?_⟩
            refine mx_end hq11 ?_
            go_wp2_with (at_builtin; refine wpList_append_pt rfl (.tmp 40) (.tmp 48) rfl rfl rfl rfl hpt11 rfl hli11 hok11 (by simp; omega) hs11 ?_; intro A12 c12 w12 hp12 hb12 hg12 h12)
            rw [← List.length_append] at h12
            have hgf : Fr (fun g => (Value.slice A' L.length c').ownBlock = some g) _ w12 := Fr.of_grown hg12 (fun k _ e => e.symm ▸ rfl)
            have hf12 : Fr (fun x => x = pb) w6 w12 := hF11.trans hgf (fun x hx e => by
              rcases how with e2 | ⟨g2, e2, h2⟩
              · rw [e2] at e; injection e with e; exact e.symm
              · rw [e2] at e; injection e with e; omega)
            have how12 : (Value.slice A12 (L ++ [(⟨some ⟨w8.heap.size, 0, none⟩, cv, la⟩ : BV), (⟨some ⟨ab, 0, none⟩, 32, D⟩ : BV)]).length c12).ownBlock = some pb ∨ ∃ g, (Value.slice A12 (L ++ [(⟨some ⟨w8.heap.size, 0, none⟩, cv, la⟩ : BV), (⟨some ⟨ab, 0, none⟩, 32, D⟩ : BV)]).length c12).ownBlock = some g ∧ w6.heap.size ≤ g := by
              rcases h12 with e2 | e2
              · rcases how with e3 | ⟨g3, e3, h3⟩
                · exact .inl (e2.trans e3)
                · exact .inr ⟨g3, e2.trans e3, h3⟩
              · exact .inr ⟨_, e2, hF11.size⟩
            have HML : Hid ((L ++ [(⟨some ⟨w8.heap.size, 0, none⟩, cv, la⟩ : BV), (⟨some ⟨ab, 0, none⟩, 32, D⟩ : BV)]).map (·.l) = [100, 105, 114] :: ((l6.take (i + 1)).flatMap fun q => [lastC q, atS T n q])) := Lib.hid (by
              rw [HSN.out, List.map_append, hml.out, ← HLA.out]
              simp)
            have HLL : Hid ((L ++ [(⟨some ⟨w8.heap.size, 0, none⟩, cv, la⟩ : BV), (⟨some ⟨ab, 0, none⟩, 32, D⟩ : BV)]).length = 1 + 2 * (i + 1)) := Lib.hid (by
              have := hLl.out
              simp
              omega)
            have HSM : Hid (∀ x ∈ (L ++ [(⟨some ⟨w8.heap.size, 0, none⟩, cv, la⟩ : BV), (⟨some ⟨ab, 0, none⟩, 32, D⟩ : BV)]), x.l.length ≤ 1000) := Lib.hid (fun x hx => by
              rcases List.mem_append.1 hx with hx | hx
              · exact hsm.out x hx
              · rcases List.mem_cons.1 hx with rfl | hx
                · show la.length ≤ _
                  omega
                · rw [List.mem_singleton.1 hx]
                  show D.length ≤ _
                  rw [HDL.out]
                  omega)
            rw [show L.length + 2 = (L ++ [(⟨some ⟨w8.heap.size, 0, none⟩, cv, la⟩ : BV), (⟨some ⟨ab, 0, none⟩, 32, D⟩ : BV)]).length by simp]
            go_roundw
            case rel => exact ⟨i + 1, A12, c12, L ++ [(⟨some ⟨w8.heap.size, 0, none⟩, cv, la⟩ : BV), (⟨some ⟨ab, 0, none⟩, 32, D⟩ : BV)], hlt, by go_num, rfl, hp12, HML, HLL, HSM, how12, hf12⟩
            case measure => simp [intOf]; omega
          · have hlti : ¬ (i : Int) < (l6.length : Int) := by omega
            have HML : Hid (L.map (·.l) = [100, 105, 114] :: ((kidsS T p).flatMap fun q => [lastC q, atS T n q])) := Lib.hid (by rw [hml.out, show i = l6.length by omega, List.take_length, hl6k.out])
            have HGR := hG6.out.fr hf (by omega) (by omega)
            have HS := of_any A' c' L _ wr hpt.parts HGR (fun x hx => Nat.le_trans (hsm.out x hx) (by omega)) (by omega)
            rw [HML.out, ← HRE.out] at HS
            replace HS := Lib.hid HS
            have x9 := X6.out.fr hf (by omega)
            clear hkr hpt hf hml hLl hsm how HGR
            go_wp2_with fail
            refine HS.out.mono ?_
            rintro e w11 ⟨rfl, hb11⟩
            have hw11 := hwr.trans (hb11.mono hwr.size)
            have x11 := x9.below hb11
            clear HS hb11
            have hRl : R.length = 32 := HRL.out
            have hsz : (R.map bv).toArray.size = 32 := by simp [hRl]
            have HSI : Hid ((Tryz.prog.info? 37).map (·.size) = some (R.map bv).toArray.size) := Lib.hid (by rw [hsz]; kernel_rfl)
            have HSZ : Hid ((((List.replicate 32 (0 : UInt8)).map bv).toArray).size = (R.map bv).toArray.size) := Lib.hid (by rw [hsz]; rfl)
            have HO : Hid (((R.map bv).toArray).all (·.oneCell') = true) := Lib.hid (by
              rw [List.all_toArray, List.all_eq_true]
              exact fun u hu => bv_one R u hu)
            have hwE := hw11.trans (((Fr.refl (fun x => x = w.heap.size) w11).setRow w.heap.size rfl (R.map bv).toArray).below (B := w.heap.size) hw11.size (fun k hk e => by omega))
            clear hsz hRl
            go_wp2_with (refine wpList_store_row rfl 37 _ _ rfl w.heap.size _ rfl rfl 37 _ x11 HSI.out HSZ.out HO.out ?_)
            refine bodyPost_ret (results_cell_row Tryz.results16 _ _ w.heap.size 37 _ (0, 0) _ rfl (x11.setRow _) Tryz.underlying37 rfl HSI.out) rfl ?_
            exact ⟨rfl, hwE⟩
      · skip
        go_upto_region 7 with (fail)
        rw [← hpb]
        generalize (w3.alloc (.cells #[.int .u8 100, .int .u8 105, .int .u8 114] 5 (3, 4))).alloc (.cells #[.slice (some ⟨w3.heap.size, 0, none⟩) 3 3] 29) = w5 at *
        clear kc q0 q1 hpb
        have HK5 := Lib.hid (kids9_any tb mo K p w5 (HI.out.below hw5))
        go_wp2_with fail
        refine HK5.out.mono ?_
        rintro e w6 ⟨⟨A6, c6, l6, rfl, hl6, ho6⟩, hb6⟩
        have hl6k : Hid (l6 = kidsS T p) := Lib.hid (by rw [hl6.out, ← keys_plain, hM.out]; rfl)
        have hl6n : l6.length ≤ 128 := by rw [hl6k.out]; exact kids_count HOK.out p
        have hkb := (own_form ho6)
        have HKZ : Hid (Rd w6 (fun b => b ≠ pb) 1 A6 l6.length (l6.map stv)) := Lib.hid (Rd.of_own ho6 (fun b hb _ e => by
          obtain ⟨A', c', e1, _, _, h3, _⟩ := hkb
          injection e1 with e1
          subst e1
          have := (h3 b hb).1
          omega))
        have hw6 := hw5.trans (hb6.mono hw5.size)
        have HP6 := Lib.hid (HP0.out.below hb6)
        have hG6 := Lib.hid (hG.below hw6)
        have X6 := Lib.hid (X5.out.below hb6)
        have hpb6 := Nat.lt_of_lt_of_le hpb5 hb6.size
        clear hkb hl6 ho6 hb6 HK5 HP0 X5 hpb5
        go_wp2_with fail
        go_loopw [7, 33] (fun pv iv wr => ∃ (i : Nat) (A' : Option Addr) (c' : Nat) (L : List BV), i ≤ l6.length ∧ iv = .int .i64 (i : Int) ∧ pv = .slice A' L.length c' ∧ PtOwn wr w.heap.size A' c' L ∧ Hid (L.map (·.l) = [100, 105, 114] :: ((l6.take i).flatMap fun q => [lastC q, atS T n q])) ∧ Hid (L.length = 1 + 2 * i) ∧ Hid (∀ x ∈ L, x.l.length ≤ 1000) ∧ ((Value.slice A' L.length c').ownBlock = some pb ∨ ∃ g, (Value.slice A' L.length c').ownBlock = some g ∧ w6.heap.size ≤ g) ∧ Fr (fun x => x = pb) w6 wr) (fun _ iv _ => l6.length - (intOf iv).toNat)
        case atStart => exact ⟨0, some ⟨pb, 0, none⟩, 1, [⟨some ⟨w3.heap.size, 0, none⟩, 3, [100, 105, 114]⟩], Nat.zero_le _, rfl, rfl, HP6.out, Lib.hid (by simp), Lib.hid rfl, Lib.hid (by simp), .inl rfl, Fr.refl _ _⟩
        case round =>
          clear HP6
          obtain ⟨i, A', c', L, hi, rfl, rfl, hpt, hml, hLl, hsm, how, hf⟩ := hrel
          have hwr : Below w.heap.size w wr := hw6.trans (hf.below (B := w.heap.size) hw6.size (fun k hk e => by omega))
          have hkr := HKZ.out.fr hf (fun b _ hz e => hz e)
          have hL3 : L.length ≤ 300 := by have := hLl.out; omega
          have hfs := hf.size
          by_cases hlt : i < l6.length
          · have hlti : (i : Int) < (l6.length : Int) := by omega
            obtain ⟨g, o, hA, hzg, hgl, hcq⟩ := hkr.atm hlt
            have hqm : l6[i] ∈ kidsS T p := by rw [← hl6k.out]; exact List.getElem_mem hlt
            obtain ⟨k1, k2, k3⟩ := kids_more HOK.out hqm
            have hsn : ((l6.take (i + 1)).flatMap fun q => [lastC q, atS T n q]) = ((l6.take i).flatMap fun q => [lastC q, atS T n q]) ++ [lastC l6[i], atS T n l6[i]] := by
              rw [List.take_succ_eq_append_getElem hlt, List.flatMap_append]
              simp
            generalize l6[i] = q at hcq hqm k1 k2 k3 hsn
            have hcs : wr.cell? ⟨g, o + i, none⟩ = some (.string ⟨⟨q⟩⟩) := hcq
            have HIH := ih.out q wr hwr (by omega) (by omega)
            obtain ⟨D, hD⟩ : ∃ D, D = atS T n q := ⟨_, rfl⟩
            rw [← hD] at HIH hsn
            have hDl : D.length = 32 := by
              obtain ⟨m, hm⟩ : ∃ m, n = m + 1 := ⟨n - 1, by omega⟩
              rw [hD, hm]
              exact atS_len T m q
            replace HIH := Lib.hid HIH
            have HSN := Lib.hid hsn
            have HDL := Lib.hid hDl
            have hsz : (D.map bv).toArray.size = 32 := by simp [hDl]
            have HSI : Hid ((Tryz.prog.info? 37).map (·.size) = some (D.map bv).toArray.size) := Lib.hid (by rw [hsz]; kernel_rfl)
            have HSZ : Hid ((#[.int .u8 0, .int .u8 0, .int .u8 0, .int .u8 0, .int .u8 0, .int .u8 0, .int .u8 0, .int .u8 0, .int .u8 0, .int .u8 0, .int .u8 0, .int .u8 0, .int .u8 0, .int .u8 0, .int .u8 0, .int .u8 0, .int .u8 0, .int .u8 0, .int .u8 0, .int .u8 0, .int .u8 0, .int .u8 0, .int .u8 0, .int .u8 0, .int .u8 0, .int .u8 0, .int .u8 0, .int .u8 0, .int .u8 0, .int .u8 0, .int .u8 0, .int .u8 0] : Array Value).size = (D.map bv).toArray.size) := Lib.hid (by rw [hsz]; rfl)
            have HO : Hid (((D.map bv).toArray).all (·.oneCell') = true) := Lib.hid (by
              rw [List.all_toArray, List.all_eq_true]
              exact fun u hu => bv_one D u hu)
            have HPT := Lib.hid hpt
            have HF := Lib.hid hf
            have hlast := cut_last_len q
            subst hA
            clear hD hsn hDl hsz hqm k3 hpt hf hkr hcq hzg
            go_wp2_with fail
            refine HIH.out.mono ?_
            rintro e w7 ⟨rfl, hb7⟩
            have hb7s := hb7.size
            go_upto_region 11 with (refine wpList_store_row rfl 37 _ _ rfl w7.heap.size _ rfl rfl 37 _ (heap_alloc_last w7 _) HSI.out HSZ.out HO.out ?_)
            rw [World.setRow_alloc_new]
            have hba : Below w7.heap.size w7 (w7.alloc (.cells (D.map bv).toArray 37)) := (Below.refl _ _).alloc (Nat.le_refl _) _
            have hb8 : Below wr.heap.size wr (w7.alloc (.cells (D.map bv).toArray 37)) := hb7.trans (hba.mono hb7s)
            have YB := Blk.new w7 37 (D.map bv).toArray
            obtain ⟨ab, hab⟩ : ∃ ab, ab = w7.heap.size := ⟨_, rfl⟩
            rw [← hab] at YB ⊢
            generalize w7.alloc (.cells (D.map bv).toArray 37) = w8 at *
            have habr : wr.heap.size ≤ ab := by omega
            have hab8 := YB.lt
            have HYB := Lib.hid YB
            clear HIH HSI HSZ HO hba hab YB hcs hb7 hb7s hgl
            obtain ⟨kk, hkk1, hkk2, hkk3⟩ := last_part ⟨⟨q⟩⟩
            obtain ⟨la, hlaq⟩ : ∃ la, la = lastC q := ⟨_, rfl⟩
            rw [← hlaq] at hlast
            have hss : ∀ W, (Instr.slice 9 (.string ⟨⟨q⟩⟩) (some (.int .i64 (kk : Int))) none none).run Tryz.prog W = .ok (.string ⟨⟨la⟩⟩) W := fun W => by
              rw [run_slice_string_l W 9 ⟨⟨q⟩⟩ Tryz.underlying9 .i64 (kk : Int) (by omega) (by have := hkk2; omega)]
              congr 2
              have e1 : tl ((⟨⟨q⟩⟩ : ByteArray).extract (Int.toNat (kk : Int)) (⟨⟨q⟩⟩ : ByteArray).size) = la := by
                rw [hlaq, ← show (tl ⟨⟨q⟩⟩).drop kk = lastC q from hkk3, Int.toNat_natCast]
                simp only [tl, ByteArray.data_extract, Array.toList_extract, List.extract_eq_take_drop]
                rw [List.take_of_length_le (by simp [ByteArray.size])]
              rw [← e1]
            have HLI := Lib.hid (fun W => Tryz.strings_LastIndexByte ⟨⟨q⟩⟩ 47 (by show q.length < _; omega) W)
            obtain ⟨li, hli⟩ : ∃ li, li = Lib.lastIndexByte ⟨⟨q⟩⟩ 47 := ⟨_, rfl⟩
            rw [← hli] at HLI hkk1
            have hkkw : IntKind.i64.wrap (li + 1) = (kk : Int) := by
              have h96 : kk ≤ q.length := hkk2
              rw [hkk1]
              exact IntWalk.i64_in _ ⟨by omega, by omega⟩
            have HLA := Lib.hid hlaq
            have hb8d := hb8.drew
            obtain ⟨cv, W10, hcv, hby, hcv1, hcv2, hlow, hs10⟩ := conv_str w8.drew la (by simp only [maxLen]; omega)
            have hs89 : w8.drew.heap.size = w8.heap.size := rfl
            rw [hs89] at hcv hby hs10
            have hb10 : Below wr.heap.size wr W10 := hb8d.trans (hlow.mono hb8d.size)
            have hq8 : Below w8.heap.size w8 w8 := Below.refl _ _
            have hq10 : Below w8.heap.size w8 W10 := hq8.drew.trans hlow
            have hYB10 := HYB.out.below hq10
            have e2x : ([(⟨some ⟨w8.heap.size, 0, none⟩, cv, la⟩ : BV), (⟨some ⟨ab, 0, none⟩, 32, D⟩ : BV)].map BV.v).toArray = #[.slice (some ⟨w8.heap.size, 0, none⟩) la.length cv, .slice (some ⟨ab, 0, none⟩) 32 32] := by simp [BV.v, HDL.out]
            have hbL : Below W10.heap.size W10 (W10.alloc (.cells #[.slice (some ⟨w8.heap.size, 0, none⟩) la.length cv, .slice (some ⟨ab, 0, none⟩) 32 32] 29)) := (Below.refl _ _).alloc (Nat.le_refl _) _
            have hq11 := hq10.trans (hbL.mono hq10.size)
            have hb11 : Below wr.heap.size wr (W10.alloc (.cells #[.slice (some ⟨w8.heap.size, 0, none⟩) la.length cv, .slice (some ⟨ab, 0, none⟩) 32 32] 29)) := hb10.trans (hbL.mono hb10.size)
            have hpt11 := HPT.out.below hb11
            have hli11 := Rd.lit2 W10 [(⟨some ⟨w8.heap.size, 0, none⟩, cv, la⟩ : BV), (⟨some ⟨ab, 0, none⟩, 32, D⟩ : BV)]
            rw [e2x] at hli11
            have h8s := hb8.size
            have hok11 : ∀ x ∈ [(⟨some ⟨w8.heap.size, 0, none⟩, cv, la⟩ : BV), (⟨some ⟨ab, 0, none⟩, 32, D⟩ : BV)], x.ok (W10.alloc (.cells #[.slice (some ⟨w8.heap.size, 0, none⟩) la.length cv, .slice (some ⟨ab, 0, none⟩) 32 32] 29)) (fun b => (Value.slice A' L.length c').ownBlock ≠ some b) := fun x hx => by
              rcases List.mem_cons.1 hx with rfl | hx
              · refine BV.ok.mono (BV.ok.below (w := W10) ⟨hby, hcv1, hcv2⟩ hbL) (fun b _ hb e => ?_)
                have h7 := (World.ownsRow.lt HPT.out.row b e).2
                have h8 : b = w8.heap.size := hb
                omega
              · rw [List.mem_singleton.1 hx]
                refine ⟨(array_by (hYB10.below hbL)).mono (fun b _ hb e => ?_), by show D.length ≤ 32; rw [HDL.out]; exact Nat.le_refl _, show (32 : Nat) ≤ maxLen by decide⟩
                have h7 := (World.ownsRow.lt HPT.out.row b e).2
                have h8 : b = ab := hb
                omega
            have hs11 : w.heap.size ≤ (W10.alloc (.cells #[.slice (some ⟨w8.heap.size, 0, none⟩) la.length cv, .slice (some ⟨ab, 0, none⟩) 32 32] 29)).heap.size := Nat.le_trans hwr.size hb11.size
            have hF11 : Fr (fun x => x = pb) w6 (W10.alloc (.cells #[.slice (some ⟨w8.heap.size, 0, none⟩) la.length cv, .slice (some ⟨ab, 0, none⟩) 32 32] 29)) := HF.out.then_below hb11
            clear hlaq hby hlow hs10 hkk1 hkk2 hkk3 hli hs89 e2x
            refine wp_region_p [(0, true), (1, true), (2, true), (7, true), (3, false), (4, true), (5, true), (6, false), (8, false)] (fun W => Below w8.heap.size w8 W) (by kernel_rfl) (by kernel_rfl) ?_
            simp only [List.map_cons, List.map_nil, List.filterMap_cons, List.filterMap_nil, List.getElem?_cons_zero, List.getElem?_cons_succ, List.length_cons, List.length_nil, Nat.zero_add, Nat.reduceAdd, List.drop_succ_cons, List.drop_zero]
            refine mx_move _ (by kernel_rfl) rfl ⟨_, (by ((try simp [go_sem]); (try rfl); done)), _, (by (simp only [Act.put, List.setIfInBounds_toArray, List.set_cons_zero, List.set_cons_succ]; rfl)), ?_⟩
            refine mx_move _ (by kernel_rfl) rfl ⟨_, (by ((try simp [go_sem]); (try rfl); done)), _, (by (simp only [Act.put, List.setIfInBounds_toArray, List.set_cons_zero, List.set_cons_succ]; rfl)), ?_⟩
            refine mx_move _ (by kernel_rfl) rfl ⟨_, (by ((try simp [go_sem]); (try rfl); done)), _, (by (simp only [Act.put, List.setIfInBounds_toArray, List.set_cons_zero, List.set_cons_succ]; rfl)), ?_⟩
            refine mx_val (by kernel_rfl) ⟨_, (by (intro w' hC; clear hC; (try go_simp); (try with_reducible rfl); done)), _, (by (simp only [Act.put, List.setIfInBounds_toArray, List.set_cons_zero, List.set_cons_succ]; rfl)), ?_⟩
            refine mx_call (hq8.drew) (by kernel_rfl) ?_ (HLI.out _) ?_
            · (go_simp; done)
            rintro e w2 ⟨rfl, rfl⟩
            refine ⟨_, rfl, _, (by (simp only [Act.put, List.setIfInBounds_toArray, List.set_cons_zero, List.set_cons_succ]; rfl)), ?_⟩
            refine mx_val (by kernel_rfl) ⟨_, (by (intro w' hC; clear hC; (try go_simp); (try with_reducible rfl); done)), _, (by (simp only [Act.put, List.setIfInBounds_toArray, List.set_cons_zero, List.set_cons_succ]; rfl)), ?_⟩
            refine mx_val (by kernel_rfl) ⟨_, (by (intro w' hC; clear hC; (try go_simp); (try with_reducible rfl); done)), _, (by (simp only [Act.put, List.setIfInBounds_toArray, List.set_cons_zero, List.set_cons_succ]; rfl)), ?_⟩
            refine mx_alone (hq8.drew) (by kernel_rfl) ⟨_, _, (by (go_simp; first | done | exact ⟨rfl, rfl⟩)), _, (by (simp only [Act.put, List.setIfInBounds_toArray, List.set_cons_zero, List.set_cons_succ]; rfl)), ?_⟩
            refine mx_alone (hq10) (by kernel_rfl) ⟨_, _, (by (go_simp; first | done | exact ⟨rfl, rfl⟩)), _, (by (simp only [Act.put, List.setIfInBounds_toArray, List.set_cons_zero, List.set_cons_succ]; rfl)), ?_⟩
            refine mx_end hq11 ?_
            go_wp2_with (at_builtin; refine wpList_append_pt rfl (.tmp 40) (.tmp 48) rfl rfl rfl rfl hpt11 rfl hli11 hok11 (by simp; omega) hs11 ?_; intro A12 c12 w12 hp12 hb12 hg12 h12)
            rw [← List.length_append] at h12
            have hgf : Fr (fun g => (Value.slice A' L.length c').ownBlock = some g) _ w12 := Fr.of_grown hg12 (fun k _ e => e.symm ▸ rfl)
            have hf12 : Fr (fun x => x = pb) w6 w12 := hF11.trans hgf (fun x hx e => by
              rcases how with e2 | ⟨g2, e2, h2⟩
              · rw [e2] at e; injection e with e; exact e.symm
              · rw [e2] at e; injection e with e; omega)
            have how12 : (Value.slice A12 (L ++ [(⟨some ⟨w8.heap.size, 0, none⟩, cv, la⟩ : BV), (⟨some ⟨ab, 0, none⟩, 32, D⟩ : BV)]).length c12).ownBlock = some pb ∨ ∃ g, (Value.slice A12 (L ++ [(⟨some ⟨w8.heap.size, 0, none⟩, cv, la⟩ : BV), (⟨some ⟨ab, 0, none⟩, 32, D⟩ : BV)]).length c12).ownBlock = some g ∧ w6.heap.size ≤ g := by
              rcases h12 with e2 | e2
              · rcases how with e3 | ⟨g3, e3, h3⟩
                · exact .inl (e2.trans e3)
                · exact .inr ⟨g3, e2.trans e3, h3⟩
              · exact .inr ⟨_, e2, hF11.size⟩
            have HML : Hid ((L ++ [(⟨some ⟨w8.heap.size, 0, none⟩, cv, la⟩ : BV), (⟨some ⟨ab, 0, none⟩, 32, D⟩ : BV)]).map (·.l) = [100, 105, 114] :: ((l6.take (i + 1)).flatMap fun q => [lastC q, atS T n q])) := Lib.hid (by
              rw [HSN.out, List.map_append, hml.out, ← HLA.out]
              simp)
            have HLL : Hid ((L ++ [(⟨some ⟨w8.heap.size, 0, none⟩, cv, la⟩ : BV), (⟨some ⟨ab, 0, none⟩, 32, D⟩ : BV)]).length = 1 + 2 * (i + 1)) := Lib.hid (by
              have := hLl.out
              simp
              omega)
            have HSM : Hid (∀ x ∈ (L ++ [(⟨some ⟨w8.heap.size, 0, none⟩, cv, la⟩ : BV), (⟨some ⟨ab, 0, none⟩, 32, D⟩ : BV)]), x.l.length ≤ 1000) := Lib.hid (fun x hx => by
              rcases List.mem_append.1 hx with hx | hx
              · exact hsm.out x hx
              · rcases List.mem_cons.1 hx with rfl | hx
                · show la.length ≤ _
                  omega
                · rw [List.mem_singleton.1 hx]
                  show D.length ≤ _
                  rw [HDL.out]
                  omega)
            rw [show L.length + 2 = (L ++ [(⟨some ⟨w8.heap.size, 0, none⟩, cv, la⟩ : BV), (⟨some ⟨ab, 0, none⟩, 32, D⟩ : BV)]).length by simp]
            go_roundw
            case rel => exact ⟨i + 1, A12, c12, L ++ [(⟨some ⟨w8.heap.size, 0, none⟩, cv, la⟩ : BV), (⟨some ⟨ab, 0, none⟩, 32, D⟩ : BV)], hlt, by go_num, rfl, hp12, HML, HLL, HSM, how12, hf12⟩
            case measure => simp [intOf]; omega
          · have hlti : ¬ (i : Int) < (l6.length : Int) := by omega
            have HML : Hid (L.map (·.l) = [100, 105, 114] :: ((kidsS T p).flatMap fun q => [lastC q, atS T n q])) := Lib.hid (by rw [hml.out, show i = l6.length by omega, List.take_length, hl6k.out])
            have HGR := hG6.out.fr hf (by omega) (by omega)
            have HS := of_any A' c' L _ wr hpt.parts HGR (fun x hx => Nat.le_trans (hsm.out x hx) (by omega)) (by omega)
            rw [HML.out, ← HRE.out] at HS
            replace HS := Lib.hid HS
            have x9 := X6.out.fr hf (by omega)
            clear hkr hpt hf hml hLl hsm how HGR
            go_wp2_with fail
            refine HS.out.mono ?_
            rintro e w11 ⟨rfl, hb11⟩
            have hw11 := hwr.trans (hb11.mono hwr.size)
            have x11 := x9.below hb11
            clear HS hb11
            have hRl : R.length = 32 := HRL.out
            have hsz : (R.map bv).toArray.size = 32 := by simp [hRl]
            have HSI : Hid ((Tryz.prog.info? 37).map (·.size) = some (R.map bv).toArray.size) := Lib.hid (by rw [hsz]; kernel_rfl)
            have HSZ : Hid ((((List.replicate 32 (0 : UInt8)).map bv).toArray).size = (R.map bv).toArray.size) := Lib.hid (by rw [hsz]; rfl)
            have HO : Hid (((R.map bv).toArray).all (·.oneCell') = true) := Lib.hid (by
              rw [List.all_toArray, List.all_eq_true]
              exact fun u hu => bv_one R u hu)
            have hwE := hw11.trans (((Fr.refl (fun x => x = w.heap.size) w11).setRow w.heap.size rfl (R.map bv).toArray).below (B := w.heap.size) hw11.size (fun k hk e => by omega))
            clear hsz hRl
            go_wp2_with (refine wpList_store_row rfl 37 _ _ rfl w.heap.size _ rfl rfl 37 _ x11 HSI.out HSZ.out HO.out ?_)
            refine bodyPost_ret (results_cell_row Tryz.results16 _ _ w.heap.size 37 _ (0, 0) _ rfl (x11.setRow _) Tryz.underlying37 rfl HSI.out) rfl ?_
            exact ⟨rfl, hwE⟩

end Go.Proofs.YtjcfphdjgagimaaGreatDoor

/- tenderref09.Bytes; canon.Bytes at none; canon.Sum. -/
namespace Go.Proofs.YtjcfphdjgagimaaGreatDoor
open Go.RowKit Go.Maps


end Go.Proofs.YtjcfphdjgagimaaGreatDoor
