/- tenderref09.At. -/
import Derived.Test.YtjcfphdjgagimaaGreatDoorA12
import Derived.Deep.RegionHeld3
import Derived.Deep.RegionLaw
import Derived.Stop.BytesEq
import Derived.Lib.LaidTab
import Derived.Handed
import Derived.KernelRfl
import Derived.ChangeMaps5

namespace Go.Proofs.YtjcfphdjgagimaaGreatDoor
open Go.RowKit Go.Maps


set_option maxRecDepth 100000 in
set_option maxHeartbeats 4000000 in
theorem atR_any (T : List (List UInt8 × LP)) (hok : TreeOk T) : ∀ (n : Nat) (p : List UInt8) (B : Option Addr) (d : Nat) (M : List (List UInt8 × LV)) (w : World), Its w B M → Hid (plainL M = T) → p.length ≤ 100 → 101 ≤ p.length + n →
    Calls Tryz.prog 17 #[.slice B M.length d, .string ⟨⟨p⟩⟩] w fun e w' => e = .returned (.agg ((atS T n p).map bv).toArray) ∧ Below w.heap.size w w'
  | 0, p, B, d, M, w, hI, hM, hp, hn => by omega
  | n + 1, p, B, d, M, w, hI, hM, hp, hn => by
    have ih := Lib.hid (fun (q : List UInt8) (W : World) (hW : Below w.heap.size w W) (h1 : q.length ≤ 100) (h2 : 101 ≤ q.length + n) => atR_any T hok n q B d M W (hI.below hW) hM h1 h2)
    have x0 : Blk (w.alloc (.cells #[.int .u8 0, .int .u8 0, .int .u8 0, .int .u8 0, .int .u8 0, .int .u8 0, .int .u8 0, .int .u8 0, .int .u8 0, .int .u8 0, .int .u8 0, .int .u8 0, .int .u8 0, .int .u8 0, .int .u8 0, .int .u8 0, .int .u8 0, .int .u8 0, .int .u8 0, .int .u8 0, .int .u8 0, .int .u8 0, .int .u8 0, .int .u8 0, .int .u8 0, .int .u8 0, .int .u8 0, .int .u8 0, .int .u8 0, .int .u8 0, .int .u8 0, .int .u8 0] 36)) w.heap.size 36 (((List.replicate 32 (0 : UInt8)).map bv).toArray) := Blk.new w 36 #[.int .u8 0, .int .u8 0, .int .u8 0, .int .u8 0, .int .u8 0, .int .u8 0, .int .u8 0, .int .u8 0, .int .u8 0, .int .u8 0, .int .u8 0, .int .u8 0, .int .u8 0, .int .u8 0, .int .u8 0, .int .u8 0, .int .u8 0, .int .u8 0, .int .u8 0, .int .u8 0, .int .u8 0, .int .u8 0, .int .u8 0, .int .u8 0, .int .u8 0, .int .u8 0, .int .u8 0, .int .u8 0, .int .u8 0, .int .u8 0, .int .u8 0, .int .u8 0]
    have hw1 : Below w.heap.size w (w.alloc (.cells #[.int .u8 0, .int .u8 0, .int .u8 0, .int .u8 0, .int .u8 0, .int .u8 0, .int .u8 0, .int .u8 0, .int .u8 0, .int .u8 0, .int .u8 0, .int .u8 0, .int .u8 0, .int .u8 0, .int .u8 0, .int .u8 0, .int .u8 0, .int .u8 0, .int .u8 0, .int .u8 0, .int .u8 0, .int .u8 0, .int .u8 0, .int .u8 0, .int .u8 0, .int .u8 0, .int .u8 0, .int .u8 0, .int .u8 0, .int .u8 0, .int .u8 0, .int .u8 0] 36)) := (Below.refl _ _).alloc (Nat.le_refl _) _
    have HI := Lib.hid hI
    have HOK := Lib.hid hok
    obtain ⟨R, hR⟩ : ∃ R, R = atS T (n + 1) p := ⟨_, rfl⟩
    rw [← hR]
    have HR := Lib.hid hR
    have HRL : Hid (R.length = 32) := Lib.hid (by rw [hR]; exact atS_len T n p)
    clear hR hI hok
    go_enter Tryz.func17, Tryz.ntmps17
    go_upto_region 1 with (fail)
    generalize (w.alloc (.cells #[.int .u8 0, .int .u8 0, .int .u8 0, .int .u8 0, .int .u8 0, .int .u8 0, .int .u8 0, .int .u8 0, .int .u8 0, .int .u8 0, .int .u8 0, .int .u8 0, .int .u8 0, .int .u8 0, .int .u8 0, .int .u8 0, .int .u8 0, .int .u8 0, .int .u8 0, .int .u8 0, .int .u8 0, .int .u8 0, .int .u8 0, .int .u8 0, .int .u8 0, .int .u8 0, .int .u8 0, .int .u8 0, .int .u8 0, .int .u8 0, .int .u8 0, .int .u8 0] 36)) = w1 at *
    go_wp2_with fail
    refine (refGetP d (HI.out.below hw1) hM p (by omega)).mono ?_
    rintro e w2 ⟨⟨A2, c2, l2, rfl, hl2, hy2⟩, hb2⟩
    obtain ⟨k, hk⟩ : ∃ k, k = kindL (getR T p) := ⟨_, rfl⟩
    rw [← hk]
    have HK := Lib.hid hk
    have hw2 := hw1.trans (hb2.mono hw1.size)
    have hlk : l2.length ≤ 4096 ∧ (k = 0 ∨ k = 1 ∨ k = 2) := by
      rw [hl2.out, hk]
      rcases hg : getR T p with _ | v
      · exact ⟨by simp [dataL], .inl rfl⟩
      · have h1 := HOK.out.good _ (getR_mem hg)
        exact ⟨checkN_small h1.2.2, .inr h1.2.1⟩
    obtain ⟨hl2l, hkk⟩ := hlk
    have hba : Below w2.heap.size w2 (w2.alloc (.cells #[.int .i64 k, .slice A2 l2.length c2] 46)) := (Below.refl _ _).alloc (Nat.le_refl _) _
    have z0 := Blk.new w2 46 #[.int .i64 k, .slice A2 l2.length c2]
    have hw3 := hw2.trans (hba.mono hw2.size)
    have X3 := Lib.hid ((x0.below hb2).below hba)
    have HY3 := Lib.hid (hy2.below hba)
    clear hk x0 hb2 hy2 hba
    go_upto_region 2 with (fail)
    obtain ⟨lb, hlb⟩ : ∃ lb, lb = w2.heap.size := ⟨_, rfl⟩
    rw [← hlb] at z0 ⊢
    generalize w2.alloc (.cells #[.int .i64 k, .slice A2 l2.length c2] 46) = w3 at *
    have hlbl := z0.lt
    have q0 := z0.cell 0
    have q1 := z0.cell 1
    simp only [List.getElem?_toArray, List.getElem?_cons_zero, List.getElem?_cons_succ] at q0 q1
    have hw3s := hw3.size
    clear hlb z0
    by_cases hc : p ≠ [] ∧ k ≠ 2
    · obtain ⟨hpn, hk2⟩ := hc
      have hpb : (p != []) = true := by simpa using hpn
      have hpb2 : (p == []) = false := by simpa using hpn
      have hkb : (k != 2) = true := by simpa using hk2
      have HRE : Hid (R = shaS (leafB k l2)) := Lib.hid (by rw [HR.out, atS_leaf ⟨hpn, by rw [← HK.out]; exact hk2⟩, ← HK.out, ← hl2.out])
      have HLB := Lib.hid (leafBytes_any k A2 c2 l2 _ w3 HY3.out (by omega) (by omega))
      have hbl := leafB_len k l2
      clear hpn hk2
      go_wp2_with fail
      refine HLB.out.mono ?_
      rintro e w4 ⟨A4, c4, l4, rfl, hl4, ho4, hb4⟩
      have hl4l : l4.length ≤ 10000 := by rw [hl4.out]; omega
      have HS := Lib.hid (sumR_any A4 c4 l4 _ w4 ho4.rd (by omega))
      rw [hl4.out, ← HRE.out] at HS
      rw [hl4.out]
      have hw4 := hw3.trans (hb4.mono hw3s)
      have X4 := Lib.hid (X3.out.below hb4)
      clear HLB ho4 hb4 q0 q1
      go_wp2_with fail
      refine HS.out.mono ?_
      rintro e w5 ⟨rfl, hb5⟩
      have hw5 := hw4.trans (hb5.mono hw4.size)
      have x5 := X4.out.below hb5
      clear HS hb5
      have hRl : R.length = 32 := HRL.out
      have hsz : (R.map bv).toArray.size = 32 := by simp [hRl]
      have HSI : Hid ((Tryz.prog.info? 36).map (·.size) = some (R.map bv).toArray.size) := Lib.hid (by rw [hsz]; kernel_rfl)
      have HSZ : Hid ((((List.replicate 32 (0 : UInt8)).map bv).toArray).size = (R.map bv).toArray.size) := Lib.hid (by rw [hsz]; rfl)
      have HO : Hid (((R.map bv).toArray).all (·.oneCell') = true) := Lib.hid (by
        rw [List.all_toArray, List.all_eq_true]
        exact fun u hu => bv_one R u hu)
      have hwE := hw5.trans (((Fr.refl (fun x => x = w.heap.size) w5).setRow w.heap.size rfl (R.map bv).toArray).below (B := w.heap.size) hw5.size (fun k hk e => by omega))
      clear hsz hRl
      go_wp2_with (refine wpList_store_row rfl 36 _ _ rfl w.heap.size _ rfl rfl 36 _ x5 HSI.out HSZ.out HO.out ?_)
      refine bodyPost_ret (results_cell_row Tryz.results17 _ _ w.heap.size 36 _ (0, 0) _ rfl (x5.setRow _) Tryz.underlying36 rfl HSI.out) rfl ?_
      exact ⟨rfl, hwE⟩
    · have HRE : Hid (R = shaS (partsS ([100, 105, 114] :: (kidsS T p).flatMap fun q => [lastC q, atS T n q]))) := Lib.hid (by rw [HR.out, atS_dir (by rw [← HK.out]; exact hc)])
      have hcc : (p != [] && k != 2) = false := by
        rcases Decidable.not_and_iff_or_not.1 hc with h | h
        · simp at h; simp [h]
        · simp at h; simp [h]
      have hpk : p = [] ∨ k = 2 := by
        rcases Decidable.not_and_iff_or_not.1 hc with h | h
        · exact .inl (by simpa using h)
        · exact .inr (by simpa using h)
      have hpk : (p = [] ∧ (p != []) = false ∧ (p == []) = true) ∨ ((p != []) = true ∧ (p == []) = false ∧ (k != 2) = false) := by
        by_cases hp0 : p = []
        · exact .inl ⟨hp0, by simp [hp0], by simp [hp0]⟩
        · refine .inr ⟨by simpa using hp0, by simpa using hp0, ?_⟩
          rcases hpk with h | h
          · exact absurd h hp0
          · simp [h]
      clear hcc hc hl2 HK HR
      have kc := dir_conv w3
      have hb4 : Below w3.heap.size w3 (w3.alloc (.cells #[.int .u8 100, .int .u8 105, .int .u8 114] 5 (3, 4))) := (Below.refl _ _).alloc (Nat.le_refl _) _
      have hz4 : (w3.alloc (.cells #[.int .u8 100, .int .u8 105, .int .u8 114] 5 (3, 4))).heap.size = w3.heap.size + 1 := by simp
      have hP0 := PtOwn.lit1 (w3.alloc (.cells #[.int .u8 100, .int .u8 105, .int .u8 114] 5 (3, 4))) ⟨some ⟨w3.heap.size, 0, none⟩, 3, [100, 105, 114]⟩ w.heap.size (by omega) ⟨(dir_by w3).mono (fun _ _ _ => trivial), Nat.le_refl 3, show (3 : Nat) ≤ maxLen by decide⟩
      have hb5 := ((Below.refl (w3.alloc (.cells #[.int .u8 100, .int .u8 105, .int .u8 114] 5 (3, 4))).heap.size (w3.alloc (.cells #[.int .u8 100, .int .u8 105, .int .u8 114] 5 (3, 4)))).alloc (Nat.le_refl _) (.cells #[.slice (some ⟨w3.heap.size, 0, none⟩) 3 3] 29))
      have hw5 := (hw3.trans (hb4.mono hw3s)).trans (hb5.mono (by omega))
      have X5 := Lib.hid ((X3.out.below hb4).below hb5)
      rw [hz4] at hP0
      obtain ⟨pb, hpb⟩ : ∃ pb, pb = w3.heap.size + 1 := ⟨_, rfl⟩
      rw [← hpb] at hP0
      have hpbw : w.heap.size < pb := by omega
      have hpb5 : pb < ((w3.alloc (.cells #[.int .u8 100, .int .u8 105, .int .u8 114] 5 (3, 4))).alloc (.cells #[.slice (some ⟨w3.heap.size, 0, none⟩) 3 3] 29)).heap.size := by simp; omega
      have HP0 := Lib.hid hP0
      clear hb4 hz4 hP0 hb5 X3 HY3
      rcases hpk with ⟨hp0, hp1, hp2⟩ | ⟨hp1, hp2, hp3⟩
      · clear hp0
        go_upto_region 5 with (fail)
        rw [← hpb]
        generalize (w3.alloc (.cells #[.int .u8 100, .int .u8 105, .int .u8 114] 5 (3, 4))).alloc (.cells #[.slice (some ⟨w3.heap.size, 0, none⟩) 3 3] 29) = w5 at *
        clear kc q0 q1 hpb
        have HK5 := Lib.hid (refKids_any B d M p w5 (HI.out.below hw5) (by omega))
        go_wp2_with fail
        refine HK5.out.mono ?_
        rintro e w6 ⟨⟨A6, c6, l6, rfl, hl6, ho6⟩, hb6⟩
        have hl6k : Hid (l6 = kidsS T p) := Lib.hid (by rw [hl6.out, ← keys_plain, hM.out]; rfl)
        have hl6n : l6.length ≤ 128 := by rw [hl6k.out]; exact kids_count HOK.out p
        have hkb := (own_form ho6)
        have HKZ : Hid (Rd w6 (fun b => b ≠ pb) 1 A6 l6.length (l6.map stv)) := Lib.hid (Rd.of_own ho6 (fun b hb _ e => by
          obtain ⟨A', c', e1, _, _, h3, _⟩ := hkb
          injection e1 with e1
          subst e1
          have := (h3 b hb).1
          omega))
        have hw6 := hw5.trans (hb6.mono hw5.size)
        have HP6 := Lib.hid (HP0.out.below hb6)
        have X6 := Lib.hid (X5.out.below hb6)
        have hpb6 := Nat.lt_of_lt_of_le hpb5 hb6.size
        clear hkb hl6 ho6 hb6 HK5 HP0 X5 hpb5
        go_wp2_with fail
        go_loopw [6, 8] (fun pv iv wr => ∃ (i : Nat) (A' : Option Addr) (c' : Nat) (L : List BV), i ≤ l6.length ∧ iv = .int .i64 (i : Int) ∧ pv = .slice A' L.length c' ∧ PtOwn wr w.heap.size A' c' L ∧ Hid (L.map (·.l) = [100, 105, 114] :: ((l6.take i).flatMap fun q => [lastC q, atS T n q])) ∧ Hid (L.length = 1 + 2 * i) ∧ Hid (∀ x ∈ L, x.l.length ≤ 1000) ∧ ((Value.slice A' L.length c').ownBlock = some pb ∨ ∃ g, (Value.slice A' L.length c').ownBlock = some g ∧ w6.heap.size ≤ g) ∧ Fr (fun x => x = pb) w6 wr) (fun _ iv _ => l6.length - (intOf iv).toNat)
        case atStart => exact ⟨0, some ⟨pb, 0, none⟩, 1, [⟨some ⟨w3.heap.size, 0, none⟩, 3, [100, 105, 114]⟩], Nat.zero_le _, rfl, rfl, HP6.out, Lib.hid (by simp), Lib.hid rfl, Lib.hid (by simp), .inl rfl, Fr.refl _ _⟩
        case round =>
          clear HP6
          obtain ⟨i, A', c', L, hi, rfl, rfl, hpt, hml, hLl, hsm, how, hf⟩ := hrel
          have hwr : Below w.heap.size w wr := hw6.trans (hf.below (B := w.heap.size) hw6.size (fun k hk e => by omega))
          have hkr := HKZ.out.fr hf (fun b _ hz e => hz e)
          have hL3 : L.length ≤ 300 := by have := hLl.out; omega
          have hfs := hf.size
          by_cases hlt : i < l6.length
          · have hlti : (i : Int) < (l6.length : Int) := by omega
            obtain ⟨g, o, hA, hzg, hgl, hcq⟩ := hkr.atm hlt
            have hqm : l6[i] ∈ kidsS T p := by rw [← hl6k.out]; exact List.getElem_mem hlt
            obtain ⟨k1, k2, k3⟩ := kids_more HOK.out hqm
            have hsn : ((l6.take (i + 1)).flatMap fun q => [lastC q, atS T n q]) = ((l6.take i).flatMap fun q => [lastC q, atS T n q]) ++ [lastC l6[i], atS T n l6[i]] := by
              rw [List.take_succ_eq_append_getElem hlt, List.flatMap_append]
              simp
            generalize l6[i] = q at hcq hqm k1 k2 k3 hsn
            have hcs : wr.cell? ⟨g, o + i, none⟩ = some (.string ⟨⟨q⟩⟩) := hcq
            have HIH := ih.out q wr hwr (by omega) (by omega)
            obtain ⟨D, hD⟩ : ∃ D, D = atS T n q := ⟨_, rfl⟩
            rw [← hD] at HIH hsn
            have hDl : D.length = 32 := by
              obtain ⟨m, hm⟩ : ∃ m, n = m + 1 := ⟨n - 1, by omega⟩
              rw [hD, hm]
              exact atS_len T m q
            replace HIH := Lib.hid HIH
            have HSN := Lib.hid hsn
            have HDL := Lib.hid hDl
            have hsz : (D.map bv).toArray.size = 32 := by simp [hDl]
            have HSI : Hid ((Tryz.prog.info? 36).map (·.size) = some (D.map bv).toArray.size) := Lib.hid (by rw [hsz]; kernel_rfl)
            have HSZ : Hid ((#[.int .u8 0, .int .u8 0, .int .u8 0, .int .u8 0, .int .u8 0, .int .u8 0, .int .u8 0, .int .u8 0, .int .u8 0, .int .u8 0, .int .u8 0, .int .u8 0, .int .u8 0, .int .u8 0, .int .u8 0, .int .u8 0, .int .u8 0, .int .u8 0, .int .u8 0, .int .u8 0, .int .u8 0, .int .u8 0, .int .u8 0, .int .u8 0, .int .u8 0, .int .u8 0, .int .u8 0, .int .u8 0, .int .u8 0, .int .u8 0, .int .u8 0, .int .u8 0] : Array Value).size = (D.map bv).toArray.size) := Lib.hid (by rw [hsz]; rfl)
            have HO : Hid (((D.map bv).toArray).all (·.oneCell') = true) := Lib.hid (by
              rw [List.all_toArray, List.all_eq_true]
              exact fun u hu => bv_one D u hu)
            have HPT := Lib.hid hpt
            have HF := Lib.hid hf
            have hlast := cut_last_len q
            subst hA
            clear hD hsn hDl hsz hqm k3 hpt hf hkr hcq hzg
            go_wp2_with fail
            refine HIH.out.mono ?_
            rintro e w7 ⟨rfl, hb7⟩
            have hb7s := hb7.size
            go_upto_region 10 with (refine wpList_store_row rfl 36 _ _ rfl w7.heap.size _ rfl rfl 36 _ (heap_alloc_last w7 _) HSI.out HSZ.out HO.out ?_)
            rw [World.setRow_alloc_new]
            have hba : Below w7.heap.size w7 (w7.alloc (.cells (D.map bv).toArray 36)) := (Below.refl _ _).alloc (Nat.le_refl _) _
            have hb8 : Below wr.heap.size wr (w7.alloc (.cells (D.map bv).toArray 36)) := hb7.trans (hba.mono hb7s)
            have YB := Blk.new w7 36 (D.map bv).toArray
            obtain ⟨ab, hab⟩ : ∃ ab, ab = w7.heap.size := ⟨_, rfl⟩
            rw [← hab] at YB ⊢
            generalize w7.alloc (.cells (D.map bv).toArray 36) = w8 at *
            have habr : wr.heap.size ≤ ab := by omega
            have hab8 := YB.lt
            have hcs8 : w8.cell? ⟨g, o + i, none⟩ = some (.string ⟨⟨q⟩⟩) := cell_later hb8 hcs
            have hgl8 := Nat.lt_of_lt_of_le hgl hb8.size
            have HCT := Lib.hid (refCut_any ⟨⟨q⟩⟩ (by show q.length ≤ _; omega) w8)
            have HYB := Lib.hid YB
            clear HIH HSI HSZ HO hba hab YB hcs hb7 hb7s hgl
            go_wp2_with fail
            refine HCT.out.mono ?_
            rintro e w9 ⟨Ac, cc, lc, rfl, hlc, hst, hb9⟩
            have hlc1 : 0 < lc.length := by rw [hlc.out]; exact cutL_pos _
            have hlcl : lc.length ≤ 1000 := by
              rw [hlc.out]
              have := cutL_len q
              show (cutL q).length ≤ _
              omega
            obtain ⟨e1, he1⟩ : ∃ e1, e1 = lc.length - 1 := ⟨_, rfl⟩
            have hwe : IntKind.i64.wrap ((lc.length : Int) - 1) = (e1 : Int) := by rw [IntWalk.i64_in _ ⟨by omega, by omega⟩]; omega
            have hel : (e1 : Int) < (lc.length : Int) := by omega
            have hel2 : e1 < lc.length := by omega
            obtain ⟨gc, oc, hAc, _, hgcl, hcc, _⟩ := hst.at_ hel2
            have hla : lc[e1] = lastC q := by
              unfold lastC
              rw [← show lc = cutL q from hlc.out, List.getLastD_eq_getLast?, List.getLast?_eq_getElem?, ← he1, List.getElem?_eq_getElem hel2]
              rfl
            rw [hla] at hcc
            obtain ⟨la, hlaq⟩ : ∃ la, la = lastC q := ⟨_, rfl⟩
            rw [← hlaq] at hcc hlast
            have hcc2 : w9.cell? ⟨gc, oc + e1, none⟩ = some (.string ⟨⟨la⟩⟩) := hcc
            have HLA := Lib.hid hlaq
            subst hAc
            obtain ⟨cv, W10, hcv, hby, hcv1, hcv2, hlow, hs10⟩ := conv_str w9 la (by simp only [maxLen]; omega)
            have hb89 := hb8.trans (hb9.mono hb8.size)
            have hb10 : Below wr.heap.size wr W10 := hb89.trans (hlow.mono hb89.size)
            have hbL : Below W10.heap.size W10 (W10.alloc (.cells #[.slice (some ⟨w9.heap.size, 0, none⟩) la.length cv] 29)) := (Below.refl _ _).alloc (Nat.le_refl _) _
            have hb11 : Below wr.heap.size wr (W10.alloc (.cells #[.slice (some ⟨w9.heap.size, 0, none⟩) la.length cv] 29)) := hb10.trans (hbL.mono hb10.size)
            have hpt11 := HPT.out.below hb11
            have hli11 := Rd.lit2 W10 [⟨some ⟨w9.heap.size, 0, none⟩, cv, la⟩]
            have h9s := hb89.size
            have hok11 : ∀ x ∈ [(⟨some ⟨w9.heap.size, 0, none⟩, cv, la⟩ : BV)], x.ok (W10.alloc (.cells #[.slice (some ⟨w9.heap.size, 0, none⟩) la.length cv] 29)) (fun b => (Value.slice A' L.length c').ownBlock ≠ some b) := fun x hx => by
              rw [List.mem_singleton.1 hx]
              refine BV.ok.mono (BV.ok.below (w := W10) ⟨hby, hcv1, hcv2⟩ hbL) (fun b _ hb e => ?_)
              have h7 := (World.ownsRow.lt HPT.out.row b e).2
              have h8 : b = w9.heap.size := hb
              omega
            have hs11 : w.heap.size ≤ (W10.alloc (.cells #[.slice (some ⟨w9.heap.size, 0, none⟩) la.length cv] 29)).heap.size := Nat.le_trans hwr.size hb11.size
            have HYB11 := Lib.hid ((((HYB.out).below hb9).below hlow).below hbL)
            have hown_r : ∀ b, (Value.slice A' L.length c').ownBlock = some b → b < wr.heap.size := fun b e => (World.ownsRow.lt HPT.out.row b e).2
            have hF11 : Fr (fun x => x = pb) w6 (W10.alloc (.cells #[.slice (some ⟨w9.heap.size, 0, none⟩) la.length cv] 29)) := HF.out.then_below hb11
            clear hcc hla hlaq hst HCT hcs8 hby hlow hb9 he1 hs10
            go_upto_region 12 with (at_builtin; refine wpList_append_pt rfl (.tmp 47) (.tmp 55) rfl rfl rfl rfl hpt11 rfl hli11 hok11 (by simp only [List.length_singleton]; omega) hs11 ?_; intro A12 c12 w12 hp12 hb12 hg12 h12)
            rw [← List.length_append] at h12
            have hgf : Fr (fun g => (Value.slice A' L.length c').ownBlock = some g) _ w12 := Fr.of_grown hg12 (fun k _ e => e.symm ▸ rfl)
            have hf12 : Fr (fun x => x = pb) w6 w12 := hF11.trans hgf (fun x hx e => by
              rcases how with e2 | ⟨g2, e2, h2⟩
              · rw [e2] at e; injection e with e; exact e.symm
              · rw [e2] at e; injection e with e; omega)
            have yb12 := HYB11.out.fr hgf (fun e => by have := hown_r ab e; omega)
            have h12s := hgf.size
            have habz : ab < (W10.alloc (.cells #[.slice (some ⟨w9.heap.size, 0, none⟩) la.length cv] 29)).heap.size := HYB11.out.lt
            have hbM : Below w12.heap.size w12 (w12.alloc (.cells #[.slice (some ⟨ab, 0, none⟩) 32 32] 29)) := (Below.refl _ _).alloc (Nat.le_refl _) _
            have hpt13 := hp12.below hbM
            have hli13 := Rd.lit2 w12 [(⟨some ⟨ab, 0, none⟩, 32, D⟩ : BV)]
            rw [show ([(⟨some ⟨ab, 0, none⟩, 32, D⟩ : BV)].map BV.v).toArray = #[.slice (some ⟨ab, 0, none⟩) 32 32] by simp [BV.v, HDL.out]] at hli13
            have hok13 : ∀ x ∈ [(⟨some ⟨ab, 0, none⟩, 32, D⟩ : BV)], x.ok (w12.alloc (.cells #[.slice (some ⟨ab, 0, none⟩) 32 32] 29)) (fun b => (Value.slice A12 (L ++ [(⟨some ⟨w9.heap.size, 0, none⟩, cv, la⟩ : BV)]).length c12).ownBlock ≠ some b) := fun x hx => by
              rw [List.mem_singleton.1 hx]
              refine ⟨(array_by (yb12.below hbM)).mono (fun b _ hb e => ?_), by show D.length ≤ 32; rw [HDL.out]; exact Nat.le_refl _, show (32 : Nat) ≤ maxLen by decide⟩
              have e0 := e
              have hb0 : b = ab := hb
              rcases h12 with e2 | e2
              · rw [e2] at e0
                have := hown_r b e0
                omega
              · rw [e2] at e0
                injection e0 with e0
                omega
            have hw12 : Below w.heap.size w w12 := hw6.trans (hf12.below (B := w.heap.size) hw6.size (fun k hk e => by omega))
            have hs13 : w.heap.size ≤ (w12.alloc (.cells #[.slice (some ⟨ab, 0, none⟩) 32 32] 29)).heap.size := Nat.le_trans hw12.size hbM.size
            have hf13 : Fr (fun x => x = pb) w6 (w12.alloc (.cells #[.slice (some ⟨ab, 0, none⟩) 32 32] 29)) := hf12.then_below hbM
            have how12 : (Value.slice A12 (L ++ [(⟨some ⟨w9.heap.size, 0, none⟩, cv, la⟩ : BV)]).length c12).ownBlock = some pb ∨ ∃ g, (Value.slice A12 (L ++ [(⟨some ⟨w9.heap.size, 0, none⟩, cv, la⟩ : BV)]).length c12).ownBlock = some g ∧ w6.heap.size ≤ g := by
              rcases h12 with e2 | e2
              · rcases how with e3 | ⟨g3, e3, h3⟩
                · exact .inl (e2.trans e3)
                · exact .inr ⟨g3, e2.trans e3, h3⟩
              · exact .inr ⟨_, e2, by have := hF11.size; omega⟩
            have hfs12 := hf13.size
            go_wp2_with (at_builtin; refine wpList_append_pt rfl (.tmp 57) (.tmp 59) rfl (n := L.length + 1) (by simp) rfl rfl hpt13 rfl hli13 hok13 (by simp; omega) hs13 ?_; intro A14 c14 w14 hp14 hb14 hg14 h14)
            rw [show L.length + 1 = (L ++ [(⟨some ⟨w9.heap.size, 0, none⟩, cv, la⟩ : BV)]).length by simp] at hg14 h14
            rw [← List.length_append] at h14
            have hgf14 : Fr (fun g => (Value.slice A12 (L ++ [(⟨some ⟨w9.heap.size, 0, none⟩, cv, la⟩ : BV)]).length c12).ownBlock = some g) _ w14 := Fr.of_grown hg14 (fun k _ e => e.symm ▸ rfl)
            have hf14 : Fr (fun x => x = pb) w6 w14 := hf13.trans hgf14 (fun x hx e => by
              rcases how12 with e2 | ⟨g2, e2, h2⟩
              · rw [e2] at e; injection e with e; exact e.symm
              · rw [e2] at e; injection e with e; omega)
            have how14 : (Value.slice A14 (L ++ [(⟨some ⟨w9.heap.size, 0, none⟩, cv, la⟩ : BV)] ++ [(⟨some ⟨ab, 0, none⟩, 32, D⟩ : BV)]).length c14).ownBlock = some pb ∨ ∃ g, (Value.slice A14 (L ++ [(⟨some ⟨w9.heap.size, 0, none⟩, cv, la⟩ : BV)] ++ [(⟨some ⟨ab, 0, none⟩, 32, D⟩ : BV)]).length c14).ownBlock = some g ∧ w6.heap.size ≤ g := by
              rcases h14 with e2 | e2
              · rcases how12 with e3 | ⟨g3, e3, h3⟩
                · exact .inl (e2.trans e3)
                · exact .inr ⟨g3, e2.trans e3, h3⟩
              · exact .inr ⟨_, e2, hfs12⟩
            have HML : Hid ((L ++ [(⟨some ⟨w9.heap.size, 0, none⟩, cv, la⟩ : BV)] ++ [(⟨some ⟨ab, 0, none⟩, 32, D⟩ : BV)]).map (·.l) = [100, 105, 114] :: ((l6.take (i + 1)).flatMap fun q => [lastC q, atS T n q])) := Lib.hid (by
              rw [HSN.out, List.map_append, List.map_append, hml.out, ← HLA.out]
              simp)
            have HLL : Hid ((L ++ [(⟨some ⟨w9.heap.size, 0, none⟩, cv, la⟩ : BV)] ++ [(⟨some ⟨ab, 0, none⟩, 32, D⟩ : BV)]).length = 1 + 2 * (i + 1)) := Lib.hid (by
              have := hLl.out
              simp
              omega)
            have HSM : Hid (∀ x ∈ (L ++ [(⟨some ⟨w9.heap.size, 0, none⟩, cv, la⟩ : BV)] ++ [(⟨some ⟨ab, 0, none⟩, 32, D⟩ : BV)]), x.l.length ≤ 1000) := Lib.hid (fun x hx => by
              rcases List.mem_append.1 hx with hx | hx
              · rcases List.mem_append.1 hx with hx | hx
                · exact hsm.out x hx
                · rw [List.mem_singleton.1 hx]
                  show la.length ≤ _
                  omega
              · rw [List.mem_singleton.1 hx]
                show D.length ≤ _
                rw [HDL.out]
                omega)
            rw [show L.length + 1 + 1 = (L ++ [(⟨some ⟨w9.heap.size, 0, none⟩, cv, la⟩ : BV)] ++ [(⟨some ⟨ab, 0, none⟩, 32, D⟩ : BV)]).length by simp]
            go_roundw
            case rel => exact ⟨i + 1, A14, c14, L ++ [(⟨some ⟨w9.heap.size, 0, none⟩, cv, la⟩ : BV)] ++ [(⟨some ⟨ab, 0, none⟩, 32, D⟩ : BV)], hlt, by go_num, rfl, hp14, HML, HLL, HSM, how14, hf14⟩
            case measure => simp [intOf]; omega
          · have hlti : ¬ (i : Int) < (l6.length : Int) := by omega
            have HML : Hid (L.map (·.l) = [100, 105, 114] :: ((kidsS T p).flatMap fun q => [lastC q, atS T n q])) := Lib.hid (by rw [hml.out, show i = l6.length by omega, List.take_length, hl6k.out])
            have HPR := Lib.hid (partsR_any A' c' L _ wr hpt.parts (fun x hx => Nat.le_trans (hsm.out x hx) (by omega)) (by omega))
            have x9 := X6.out.fr hf (by omega)
            have hpl := partsS_len L (fun x hx => Nat.le_trans (hsm.out x hx) (by omega))
            clear hkr hpt hf hml hLl hsm how
            go_wp2_with fail
            refine HPR.out.mono ?_
            rintro e w10 ⟨B9, d9, M9, rfl, hM9, ho9, hb9⟩
            have hM9l : M9.length ≤ 1000000000 := by rw [hM9.out]; omega
            have HS := Lib.hid (sumR_any B9 d9 M9 _ w10 ho9.rd (by omega))
            rw [hM9.out, HML.out, ← HRE.out] at HS
            rw [hM9.out, HML.out]
            have hw10 := hwr.trans (hb9.mono hwr.size)
            have x10 := x9.below hb9
            clear HPR ho9 hb9 x9
            go_wp2_with fail
            refine HS.out.mono ?_
            rintro e w11 ⟨rfl, hb11⟩
            have hw11 := hw10.trans (hb11.mono hw10.size)
            have x11 := x10.below hb11
            clear HS hb11
            have hRl : R.length = 32 := HRL.out
            have hsz : (R.map bv).toArray.size = 32 := by simp [hRl]
            have HSI : Hid ((Tryz.prog.info? 36).map (·.size) = some (R.map bv).toArray.size) := Lib.hid (by rw [hsz]; kernel_rfl)
            have HSZ : Hid ((((List.replicate 32 (0 : UInt8)).map bv).toArray).size = (R.map bv).toArray.size) := Lib.hid (by rw [hsz]; rfl)
            have HO : Hid (((R.map bv).toArray).all (·.oneCell') = true) := Lib.hid (by
              rw [List.all_toArray, List.all_eq_true]
              exact fun u hu => bv_one R u hu)
            have hwE := hw11.trans (((Fr.refl (fun x => x = w.heap.size) w11).setRow w.heap.size rfl (R.map bv).toArray).below (B := w.heap.size) hw11.size (fun k hk e => by omega))
            clear hsz hRl
            go_wp2_with (refine wpList_store_row rfl 36 _ _ rfl w.heap.size _ rfl rfl 36 _ x11 HSI.out HSZ.out HO.out ?_)
            refine bodyPost_ret (results_cell_row Tryz.results17 _ _ w.heap.size 36 _ (0, 0) _ rfl (x11.setRow _) Tryz.underlying36 rfl HSI.out) rfl ?_
            exact ⟨rfl, hwE⟩
      · skip
        go_upto_region 5 with (fail)
        rw [← hpb]
        generalize (w3.alloc (.cells #[.int .u8 100, .int .u8 105, .int .u8 114] 5 (3, 4))).alloc (.cells #[.slice (some ⟨w3.heap.size, 0, none⟩) 3 3] 29) = w5 at *
        clear kc q0 q1 hpb
        have HK5 := Lib.hid (refKids_any B d M p w5 (HI.out.below hw5) (by omega))
        go_wp2_with fail
        refine HK5.out.mono ?_
        rintro e w6 ⟨⟨A6, c6, l6, rfl, hl6, ho6⟩, hb6⟩
        have hl6k : Hid (l6 = kidsS T p) := Lib.hid (by rw [hl6.out, ← keys_plain, hM.out]; rfl)
        have hl6n : l6.length ≤ 128 := by rw [hl6k.out]; exact kids_count HOK.out p
        have hkb := (own_form ho6)
        have HKZ : Hid (Rd w6 (fun b => b ≠ pb) 1 A6 l6.length (l6.map stv)) := Lib.hid (Rd.of_own ho6 (fun b hb _ e => by
          obtain ⟨A', c', e1, _, _, h3, _⟩ := hkb
          injection e1 with e1
          subst e1
          have := (h3 b hb).1
          omega))
        have hw6 := hw5.trans (hb6.mono hw5.size)
        have HP6 := Lib.hid (HP0.out.below hb6)
        have X6 := Lib.hid (X5.out.below hb6)
        have hpb6 := Nat.lt_of_lt_of_le hpb5 hb6.size
        clear hkb hl6 ho6 hb6 HK5 HP0 X5 hpb5
        go_wp2_with fail
        go_loopw [6, 8] (fun pv iv wr => ∃ (i : Nat) (A' : Option Addr) (c' : Nat) (L : List BV), i ≤ l6.length ∧ iv = .int .i64 (i : Int) ∧ pv = .slice A' L.length c' ∧ PtOwn wr w.heap.size A' c' L ∧ Hid (L.map (·.l) = [100, 105, 114] :: ((l6.take i).flatMap fun q => [lastC q, atS T n q])) ∧ Hid (L.length = 1 + 2 * i) ∧ Hid (∀ x ∈ L, x.l.length ≤ 1000) ∧ ((Value.slice A' L.length c').ownBlock = some pb ∨ ∃ g, (Value.slice A' L.length c').ownBlock = some g ∧ w6.heap.size ≤ g) ∧ Fr (fun x => x = pb) w6 wr) (fun _ iv _ => l6.length - (intOf iv).toNat)
        case atStart => exact ⟨0, some ⟨pb, 0, none⟩, 1, [⟨some ⟨w3.heap.size, 0, none⟩, 3, [100, 105, 114]⟩], Nat.zero_le _, rfl, rfl, HP6.out, Lib.hid (by simp), Lib.hid rfl, Lib.hid (by simp), .inl rfl, Fr.refl _ _⟩
        case round =>
          clear HP6
          obtain ⟨i, A', c', L, hi, rfl, rfl, hpt, hml, hLl, hsm, how, hf⟩ := hrel
          have hwr : Below w.heap.size w wr := hw6.trans (hf.below (B := w.heap.size) hw6.size (fun k hk e => by omega))
          have hkr := HKZ.out.fr hf (fun b _ hz e => hz e)
          have hL3 : L.length ≤ 300 := by have := hLl.out; omega
          have hfs := hf.size
          by_cases hlt : i < l6.length
          · have hlti : (i : Int) < (l6.length : Int) := by omega
            obtain ⟨g, o, hA, hzg, hgl, hcq⟩ := hkr.atm hlt
            have hqm : l6[i] ∈ kidsS T p := by rw [← hl6k.out]; exact List.getElem_mem hlt
            obtain ⟨k1, k2, k3⟩ := kids_more HOK.out hqm
            have hsn : ((l6.take (i + 1)).flatMap fun q => [lastC q, atS T n q]) = ((l6.take i).flatMap fun q => [lastC q, atS T n q]) ++ [lastC l6[i], atS T n l6[i]] := by
              rw [List.take_succ_eq_append_getElem hlt, List.flatMap_append]
              simp
            generalize l6[i] = q at hcq hqm k1 k2 k3 hsn
            have hcs : wr.cell? ⟨g, o + i, none⟩ = some (.string ⟨⟨q⟩⟩) := hcq
            have HIH := ih.out q wr hwr (by omega) (by omega)
            obtain ⟨D, hD⟩ : ∃ D, D = atS T n q := ⟨_, rfl⟩
            rw [← hD] at HIH hsn
            have hDl : D.length = 32 := by
              obtain ⟨m, hm⟩ : ∃ m, n = m + 1 := ⟨n - 1, by omega⟩
              rw [hD, hm]
              exact atS_len T m q
            replace HIH := Lib.hid HIH
            have HSN := Lib.hid hsn
            have HDL := Lib.hid hDl
            have hsz : (D.map bv).toArray.size = 32 := by simp [hDl]
            have HSI : Hid ((Tryz.prog.info? 36).map (·.size) = some (D.map bv).toArray.size) := Lib.hid (by rw [hsz]; kernel_rfl)
            have HSZ : Hid ((#[.int .u8 0, .int .u8 0, .int .u8 0, .int .u8 0, .int .u8 0, .int .u8 0, .int .u8 0, .int .u8 0, .int .u8 0, .int .u8 0, .int .u8 0, .int .u8 0, .int .u8 0, .int .u8 0, .int .u8 0, .int .u8 0, .int .u8 0, .int .u8 0, .int .u8 0, .int .u8 0, .int .u8 0, .int .u8 0, .int .u8 0, .int .u8 0, .int .u8 0, .int .u8 0, .int .u8 0, .int .u8 0, .int .u8 0, .int .u8 0, .int .u8 0, .int .u8 0] : Array Value).size = (D.map bv).toArray.size) := Lib.hid (by rw [hsz]; rfl)
            have HO : Hid (((D.map bv).toArray).all (·.oneCell') = true) := Lib.hid (by
              rw [List.all_toArray, List.all_eq_true]
              exact fun u hu => bv_one D u hu)
            have HPT := Lib.hid hpt
            have HF := Lib.hid hf
            have hlast := cut_last_len q
            subst hA
            clear hD hsn hDl hsz hqm k3 hpt hf hkr hcq hzg
            go_wp2_with fail
            refine HIH.out.mono ?_
            rintro e w7 ⟨rfl, hb7⟩
            have hb7s := hb7.size
            go_upto_region 10 with (refine wpList_store_row rfl 36 _ _ rfl w7.heap.size _ rfl rfl 36 _ (heap_alloc_last w7 _) HSI.out HSZ.out HO.out ?_)
            rw [World.setRow_alloc_new]
            have hba : Below w7.heap.size w7 (w7.alloc (.cells (D.map bv).toArray 36)) := (Below.refl _ _).alloc (Nat.le_refl _) _
            have hb8 : Below wr.heap.size wr (w7.alloc (.cells (D.map bv).toArray 36)) := hb7.trans (hba.mono hb7s)
            have YB := Blk.new w7 36 (D.map bv).toArray
            obtain ⟨ab, hab⟩ : ∃ ab, ab = w7.heap.size := ⟨_, rfl⟩
            rw [← hab] at YB ⊢
            generalize w7.alloc (.cells (D.map bv).toArray 36) = w8 at *
            have habr : wr.heap.size ≤ ab := by omega
            have hab8 := YB.lt
            have hcs8 : w8.cell? ⟨g, o + i, none⟩ = some (.string ⟨⟨q⟩⟩) := cell_later hb8 hcs
            have hgl8 := Nat.lt_of_lt_of_le hgl hb8.size
            have HCT := Lib.hid (refCut_any ⟨⟨q⟩⟩ (by show q.length ≤ _; omega) w8)
            have HYB := Lib.hid YB
            clear HIH HSI HSZ HO hba hab YB hcs hb7 hb7s hgl
            go_wp2_with fail
            refine HCT.out.mono ?_
            rintro e w9 ⟨Ac, cc, lc, rfl, hlc, hst, hb9⟩
            have hlc1 : 0 < lc.length := by rw [hlc.out]; exact cutL_pos _
            have hlcl : lc.length ≤ 1000 := by
              rw [hlc.out]
              have := cutL_len q
              show (cutL q).length ≤ _
              omega
            obtain ⟨e1, he1⟩ : ∃ e1, e1 = lc.length - 1 := ⟨_, rfl⟩
            have hwe : IntKind.i64.wrap ((lc.length : Int) - 1) = (e1 : Int) := by rw [IntWalk.i64_in _ ⟨by omega, by omega⟩]; omega
            have hel : (e1 : Int) < (lc.length : Int) := by omega
            have hel2 : e1 < lc.length := by omega
            obtain ⟨gc, oc, hAc, _, hgcl, hcc, _⟩ := hst.at_ hel2
            have hla : lc[e1] = lastC q := by
              unfold lastC
              rw [← show lc = cutL q from hlc.out, List.getLastD_eq_getLast?, List.getLast?_eq_getElem?, ← he1, List.getElem?_eq_getElem hel2]
              rfl
            rw [hla] at hcc
            obtain ⟨la, hlaq⟩ : ∃ la, la = lastC q := ⟨_, rfl⟩
            rw [← hlaq] at hcc hlast
            have hcc2 : w9.cell? ⟨gc, oc + e1, none⟩ = some (.string ⟨⟨la⟩⟩) := hcc
            have HLA := Lib.hid hlaq
            subst hAc
            obtain ⟨cv, W10, hcv, hby, hcv1, hcv2, hlow, hs10⟩ := conv_str w9 la (by simp only [maxLen]; omega)
            have hb89 := hb8.trans (hb9.mono hb8.size)
            have hb10 : Below wr.heap.size wr W10 := hb89.trans (hlow.mono hb89.size)
            have hbL : Below W10.heap.size W10 (W10.alloc (.cells #[.slice (some ⟨w9.heap.size, 0, none⟩) la.length cv] 29)) := (Below.refl _ _).alloc (Nat.le_refl _) _
            have hb11 : Below wr.heap.size wr (W10.alloc (.cells #[.slice (some ⟨w9.heap.size, 0, none⟩) la.length cv] 29)) := hb10.trans (hbL.mono hb10.size)
            have hpt11 := HPT.out.below hb11
            have hli11 := Rd.lit2 W10 [⟨some ⟨w9.heap.size, 0, none⟩, cv, la⟩]
            have h9s := hb89.size
            have hok11 : ∀ x ∈ [(⟨some ⟨w9.heap.size, 0, none⟩, cv, la⟩ : BV)], x.ok (W10.alloc (.cells #[.slice (some ⟨w9.heap.size, 0, none⟩) la.length cv] 29)) (fun b => (Value.slice A' L.length c').ownBlock ≠ some b) := fun x hx => by
              rw [List.mem_singleton.1 hx]
              refine BV.ok.mono (BV.ok.below (w := W10) ⟨hby, hcv1, hcv2⟩ hbL) (fun b _ hb e => ?_)
              have h7 := (World.ownsRow.lt HPT.out.row b e).2
              have h8 : b = w9.heap.size := hb
              omega
            have hs11 : w.heap.size ≤ (W10.alloc (.cells #[.slice (some ⟨w9.heap.size, 0, none⟩) la.length cv] 29)).heap.size := Nat.le_trans hwr.size hb11.size
            have HYB11 := Lib.hid ((((HYB.out).below hb9).below hlow).below hbL)
            have hown_r : ∀ b, (Value.slice A' L.length c').ownBlock = some b → b < wr.heap.size := fun b e => (World.ownsRow.lt HPT.out.row b e).2
            have hF11 : Fr (fun x => x = pb) w6 (W10.alloc (.cells #[.slice (some ⟨w9.heap.size, 0, none⟩) la.length cv] 29)) := HF.out.then_below hb11
            clear hcc hla hlaq hst HCT hcs8 hby hlow hb9 he1 hs10
            go_upto_region 12 with (at_builtin; refine wpList_append_pt rfl (.tmp 47) (.tmp 55) rfl rfl rfl rfl hpt11 rfl hli11 hok11 (by simp only [List.length_singleton]; omega) hs11 ?_; intro A12 c12 w12 hp12 hb12 hg12 h12)
            rw [← List.length_append] at h12
            have hgf : Fr (fun g => (Value.slice A' L.length c').ownBlock = some g) _ w12 := Fr.of_grown hg12 (fun k _ e => e.symm ▸ rfl)
            have hf12 : Fr (fun x => x = pb) w6 w12 := hF11.trans hgf (fun x hx e => by
              rcases how with e2 | ⟨g2, e2, h2⟩
              · rw [e2] at e; injection e with e; exact e.symm
              · rw [e2] at e; injection e with e; omega)
            have yb12 := HYB11.out.fr hgf (fun e => by have := hown_r ab e; omega)
            have h12s := hgf.size
            have habz : ab < (W10.alloc (.cells #[.slice (some ⟨w9.heap.size, 0, none⟩) la.length cv] 29)).heap.size := HYB11.out.lt
            have hbM : Below w12.heap.size w12 (w12.alloc (.cells #[.slice (some ⟨ab, 0, none⟩) 32 32] 29)) := (Below.refl _ _).alloc (Nat.le_refl _) _
            have hpt13 := hp12.below hbM
            have hli13 := Rd.lit2 w12 [(⟨some ⟨ab, 0, none⟩, 32, D⟩ : BV)]
            rw [show ([(⟨some ⟨ab, 0, none⟩, 32, D⟩ : BV)].map BV.v).toArray = #[.slice (some ⟨ab, 0, none⟩) 32 32] by simp [BV.v, HDL.out]] at hli13
            have hok13 : ∀ x ∈ [(⟨some ⟨ab, 0, none⟩, 32, D⟩ : BV)], x.ok (w12.alloc (.cells #[.slice (some ⟨ab, 0, none⟩) 32 32] 29)) (fun b => (Value.slice A12 (L ++ [(⟨some ⟨w9.heap.size, 0, none⟩, cv, la⟩ : BV)]).length c12).ownBlock ≠ some b) := fun x hx => by
              rw [List.mem_singleton.1 hx]
              refine ⟨(array_by (yb12.below hbM)).mono (fun b _ hb e => ?_), by show D.length ≤ 32; rw [HDL.out]; exact Nat.le_refl _, show (32 : Nat) ≤ maxLen by decide⟩
              have e0 := e
              have hb0 : b = ab := hb
              rcases h12 with e2 | e2
              · rw [e2] at e0
                have := hown_r b e0
                omega
              · rw [e2] at e0
                injection e0 with e0
                omega
            have hw12 : Below w.heap.size w w12 := hw6.trans (hf12.below (B := w.heap.size) hw6.size (fun k hk e => by omega))
            have hs13 : w.heap.size ≤ (w12.alloc (.cells #[.slice (some ⟨ab, 0, none⟩) 32 32] 29)).heap.size := Nat.le_trans hw12.size hbM.size
            have hf13 : Fr (fun x => x = pb) w6 (w12.alloc (.cells #[.slice (some ⟨ab, 0, none⟩) 32 32] 29)) := hf12.then_below hbM
            have how12 : (Value.slice A12 (L ++ [(⟨some ⟨w9.heap.size, 0, none⟩, cv, la⟩ : BV)]).length c12).ownBlock = some pb ∨ ∃ g, (Value.slice A12 (L ++ [(⟨some ⟨w9.heap.size, 0, none⟩, cv, la⟩ : BV)]).length c12).ownBlock = some g ∧ w6.heap.size ≤ g := by
              rcases h12 with e2 | e2
              · rcases how with e3 | ⟨g3, e3, h3⟩
                · exact .inl (e2.trans e3)
                · exact .inr ⟨g3, e2.trans e3, h3⟩
              · exact .inr ⟨_, e2, by have := hF11.size; omega⟩
            have hfs12 := hf13.size
            go_wp2_with (at_builtin; refine wpList_append_pt rfl (.tmp 57) (.tmp 59) rfl (n := L.length + 1) (by simp) rfl rfl hpt13 rfl hli13 hok13 (by simp; omega) hs13 ?_; intro A14 c14 w14 hp14 hb14 hg14 h14)
            rw [show L.length + 1 = (L ++ [(⟨some ⟨w9.heap.size, 0, none⟩, cv, la⟩ : BV)]).length by simp] at hg14 h14
            rw [← List.length_append] at h14
            have hgf14 : Fr (fun g => (Value.slice A12 (L ++ [(⟨some ⟨w9.heap.size, 0, none⟩, cv, la⟩ : BV)]).length c12).ownBlock = some g) _ w14 := Fr.of_grown hg14 (fun k _ e => e.symm ▸ rfl)
            have hf14 : Fr (fun x => x = pb) w6 w14 := hf13.trans hgf14 (fun x hx e => by
              rcases how12 with e2 | ⟨g2, e2, h2⟩
              · rw [e2] at e; injection e with e; exact e.symm
              · rw [e2] at e; injection e with e; omega)
            have how14 : (Value.slice A14 (L ++ [(⟨some ⟨w9.heap.size, 0, none⟩, cv, la⟩ : BV)] ++ [(⟨some ⟨ab, 0, none⟩, 32, D⟩ : BV)]).length c14).ownBlock = some pb ∨ ∃ g, (Value.slice A14 (L ++ [(⟨some ⟨w9.heap.size, 0, none⟩, cv, la⟩ : BV)] ++ [(⟨some ⟨ab, 0, none⟩, 32, D⟩ : BV)]).length c14).ownBlock = some g ∧ w6.heap.size ≤ g := by
              rcases h14 with e2 | e2
              · rcases how12 with e3 | ⟨g3, e3, h3⟩
                · exact .inl (e2.trans e3)
                · exact .inr ⟨g3, e2.trans e3, h3⟩
              · exact .inr ⟨_, e2, hfs12⟩
            have HML : Hid ((L ++ [(⟨some ⟨w9.heap.size, 0, none⟩, cv, la⟩ : BV)] ++ [(⟨some ⟨ab, 0, none⟩, 32, D⟩ : BV)]).map (·.l) = [100, 105, 114] :: ((l6.take (i + 1)).flatMap fun q => [lastC q, atS T n q])) := Lib.hid (by
              rw [HSN.out, List.map_append, List.map_append, hml.out, ← HLA.out]
              simp)
            have HLL : Hid ((L ++ [(⟨some ⟨w9.heap.size, 0, none⟩, cv, la⟩ : BV)] ++ [(⟨some ⟨ab, 0, none⟩, 32, D⟩ : BV)]).length = 1 + 2 * (i + 1)) := Lib.hid (by
              have := hLl.out
              simp
              omega)
            have HSM : Hid (∀ x ∈ (L ++ [(⟨some ⟨w9.heap.size, 0, none⟩, cv, la⟩ : BV)] ++ [(⟨some ⟨ab, 0, none⟩, 32, D⟩ : BV)]), x.l.length ≤ 1000) := Lib.hid (fun x hx => by
              rcases List.mem_append.1 hx with hx | hx
              · rcases List.mem_append.1 hx with hx | hx
                · exact hsm.out x hx
                · rw [List.mem_singleton.1 hx]
                  show la.length ≤ _
                  omega
              · rw [List.mem_singleton.1 hx]
                show D.length ≤ _
                rw [HDL.out]
                omega)
            rw [show L.length + 1 + 1 = (L ++ [(⟨some ⟨w9.heap.size, 0, none⟩, cv, la⟩ : BV)] ++ [(⟨some ⟨ab, 0, none⟩, 32, D⟩ : BV)]).length by simp]
            go_roundw
            case rel => exact ⟨i + 1, A14, c14, L ++ [(⟨some ⟨w9.heap.size, 0, none⟩, cv, la⟩ : BV)] ++ [(⟨some ⟨ab, 0, none⟩, 32, D⟩ : BV)], hlt, by go_num, rfl, hp14, HML, HLL, HSM, how14, hf14⟩
            case measure => simp [intOf]; omega
          · have hlti : ¬ (i : Int) < (l6.length : Int) := by omega
            have HML : Hid (L.map (·.l) = [100, 105, 114] :: ((kidsS T p).flatMap fun q => [lastC q, atS T n q])) := Lib.hid (by rw [hml.out, show i = l6.length by omega, List.take_length, hl6k.out])
            have HPR := Lib.hid (partsR_any A' c' L _ wr hpt.parts (fun x hx => Nat.le_trans (hsm.out x hx) (by omega)) (by omega))
            have x9 := X6.out.fr hf (by omega)
            have hpl := partsS_len L (fun x hx => Nat.le_trans (hsm.out x hx) (by omega))
            clear hkr hpt hf hml hLl hsm how
            go_wp2_with fail
            refine HPR.out.mono ?_
            rintro e w10 ⟨B9, d9, M9, rfl, hM9, ho9, hb9⟩
            have hM9l : M9.length ≤ 1000000000 := by rw [hM9.out]; omega
            have HS := Lib.hid (sumR_any B9 d9 M9 _ w10 ho9.rd (by omega))
            rw [hM9.out, HML.out, ← HRE.out] at HS
            rw [hM9.out, HML.out]
            have hw10 := hwr.trans (hb9.mono hwr.size)
            have x10 := x9.below hb9
            clear HPR ho9 hb9 x9
            go_wp2_with fail
            refine HS.out.mono ?_
            rintro e w11 ⟨rfl, hb11⟩
            have hw11 := hw10.trans (hb11.mono hw10.size)
            have x11 := x10.below hb11
            clear HS hb11
            have hRl : R.length = 32 := HRL.out
            have hsz : (R.map bv).toArray.size = 32 := by simp [hRl]
            have HSI : Hid ((Tryz.prog.info? 36).map (·.size) = some (R.map bv).toArray.size) := Lib.hid (by rw [hsz]; kernel_rfl)
            have HSZ : Hid ((((List.replicate 32 (0 : UInt8)).map bv).toArray).size = (R.map bv).toArray.size) := Lib.hid (by rw [hsz]; rfl)
            have HO : Hid (((R.map bv).toArray).all (·.oneCell') = true) := Lib.hid (by
              rw [List.all_toArray, List.all_eq_true]
              exact fun u hu => bv_one R u hu)
            have hwE := hw11.trans (((Fr.refl (fun x => x = w.heap.size) w11).setRow w.heap.size rfl (R.map bv).toArray).below (B := w.heap.size) hw11.size (fun k hk e => by omega))
            clear hsz hRl
            go_wp2_with (refine wpList_store_row rfl 36 _ _ rfl w.heap.size _ rfl rfl 36 _ x11 HSI.out HSZ.out HO.out ?_)
            refine bodyPost_ret (results_cell_row Tryz.results17 _ _ w.heap.size 36 _ (0, 0) _ rfl (x11.setRow _) Tryz.underlying36 rfl HSI.out) rfl ?_
            exact ⟨rfl, hwE⟩

end Go.Proofs.YtjcfphdjgagimaaGreatDoor

/- tenderlaw07: Light, lives. -/
namespace Go.Proofs.YtjcfphdjgagimaaGreatDoor
open Go.RowKit

/-- leaves in a slice -/
structure Leaves (w : World) (Z : Nat → Prop) (A : Option Addr) (l : List LV) : Prop where
  rd : Rd w Z 2 A l.length (l.flatMap LV.cells)
  ok : ∀ o ∈ l, o.x.ok w Z
  lens : ∀ o ∈ l, o.x.l.length ≤ 140737488355328
  ks : ∀ o ∈ l, -9223372036854775808 ≤ o.k ∧ o.k < 9223372036854775808
  len : l.length ≤ 140737488355328
theorem Leaves.fr {w w' : World} {Z S : Nat → Prop} {A : Option Addr} {l : List LV} (h : Leaves w Z A l) (k : Fr S w w') (hs : ∀ b, b < w.heap.size → Z b → ¬ S b) : Leaves w' Z A l :=
  ⟨h.rd.fr k hs, fun o ho => (h.ok o ho).fr k hs, h.lens, h.ks, h.len⟩
theorem Leaves.below {w w' : World} {Z : Nat → Prop} {A : Option Addr} {l : List LV} (h : Leaves w Z A l) (k : Below w.heap.size w w') : Leaves w' Z A l := h.fr (Fr.of_below k (fun _ => False)) (fun _ _ _ h => h)

end Go.Proofs.YtjcfphdjgagimaaGreatDoor

/- LeafWrites is true for every input: the bytes of any leaves are the document's; right ones are read of them as they were. No condition beyond the row's own. -/
namespace Go.Proofs.YtjcfphdjgagimaaGreatDoor
open Go.RowKit Go.WideShapes Go.ChangeShapes Go.ChangeAt

/-- a leaf as it is read again -/
def backK (k : Int) (l : List UInt8) : Nat := if checkN k l.length ≠ 0 then 0 else k.toNat
def backL (k : Int) (l : List UInt8) : List UInt8 := if checkN k l.length ≠ 0 then [] else l
theorem leafS_back (k : Int) (l t : List UInt8) : leafS (leafB k l ++ t) 0 = (backK k l, backL k l, t, 0) := by
  unfold backK backL
  by_cases hck : checkN k l.length = 0
  · rw [if_neg (by simpa using hck), if_neg (by simpa using hck)]
    obtain ⟨hk, hn0, hl⟩ := checkN_ok hck
    by_cases hk1 : k = 1
    · rw [leafB_file hck hk1]
      subst hk1
      unfold leafS
      rw [List.append_assoc, int_numB _ (by omega) (by omega)]
      dsimp only
      rw [if_pos rfl, text_textB t (by omega) (by omega)]
      simp
    · rw [leafB_other hck hk1]
      have hl0 : l = [] := List.eq_nil_of_length_eq_zero (hn0 hk1)
      unfold leafS
      rw [int_numB _ (by omega) (by omega)]
      have hk2 : ¬ k.toNat = 1 := by omega
      subst hl0
      simp [hk2]
  · rw [if_pos hck, if_pos hck, leafB_bad hck]
    unfold leafS
    rw [int_numB _ (by omega) (by omega)]
    simp
end Go.Proofs.YtjcfphdjgagimaaGreatDoor

/- canon.Read of a tree's own bytes. -/
namespace Go.Proofs.YtjcfphdjgagimaaGreatDoor
open Go.RowKit Go.Maps

/-- an eye and a tree -/
structure TrEye (w0 w : World) (eb : Nat) (L : List UInt8) (f : Int) (tb : Nat) (mo : Option Nat) (LL : List (List UInt8 × LV)) : Prop where
  e : ∃ A c, EyeAt w 107 eb (fun b => b < w0.heap.size) A c L f
  t : TreeAt w tb mo LL
  low : Below w0.heap.size w0 w
  he : w0.heap.size ≤ eb
  ht : w0.heap.size ≤ tb
  hm : ∀ m, mo = some m → w0.heap.size ≤ m
theorem TrEye.mem {w0 w w' : World} {eb : Nat} {L : List UInt8} {f : Int} {tb : Nat} {mo : Option Nat} {LL : List (List UInt8 × LV)} (h : TrEye w0 w eb L f tb mo LL) (k : Below w.heap.size w w') : TrEye w0 w' eb L f tb mo LL := by
  obtain ⟨⟨A, c, e⟩, b, l, h1, h2, h3⟩ := h
  exact ⟨⟨A, c, e.below k⟩, b.below k, l.trans (k.mono l.size), h1, h2, h3⟩
theorem TrEye.notT {w0 w : World} {eb : Nat} {L : List UInt8} {f : Int} {tb : Nat} {mo : Option Nat} {LL : List (List UInt8 × LV)} (h : TrEye w0 w eb L f tb mo LL) : ¬ (eb = tb ∨ mo = some eb) := by
  obtain ⟨⟨A, c, e⟩, b, l, h1, h2, h3⟩ := h
  rintro (e1 | e1)
  · exact e.1.ne_ b.blk (by decide) e1
  · rcases b.map with ⟨e0, _⟩ | ⟨mb, e0, hm⟩
    · rw [e0] at e1; cases e1
    · rw [e0] at e1
      injection e1 with e1
      subst e1
      exact hm.not_cells e.1
theorem TrEye.eye {w0 w w' : World} {eb : Nat} {L L' : List UInt8} {f f' : Int} {tb : Nat} {mo : Option Nat} {LL : List (List UInt8 × LV)} (h : TrEye w0 w eb L f tb mo LL) (k : EyeTo w 107 eb (fun b => b < w0.heap.size) L' f' w') : TrEye w0 w' eb L' f' tb mo LL := by
  have hn := h.notT
  obtain ⟨⟨A, c, e⟩, b, l, h1, h2, h3⟩ := h
  exact ⟨k.at_, b.fr k.fr (fun e => hn (.inl e.symm)) (fun m e1 e2 => hn (.inr (by rw [e1, e2]))) (fun x hx g hg e2 => by subst e2; exact e.1.own_ne (b.own x hx) (by decide) hg), l.trans (k.fr.below l.size (fun x _ e => by omega)), h1, h2, h3⟩
theorem TrEye.tree {w0 w w' : World} {eb : Nat} {L : List UInt8} {f : Int} {tb : Nat} {mo : Option Nat} {LL : List (List UInt8 × LV)} {T : List (List UInt8 × LP)} (h : TrEye w0 w eb L f tb mo LL) (k : TreeTo w tb mo T w') : ∃ mo' LL', TrEye w0 w' eb L f tb mo' LL' ∧ Hid (plainL LL' = T) := by
  have hn := h.notT
  obtain ⟨⟨A, c, e⟩, b, l, h1, h2, h3⟩ := h
  obtain ⟨⟨mo', L', hB, hL, hm⟩, hf⟩ := k
  refine ⟨mo', L', ⟨⟨A, c, e.fr hf hn (fun x hx hz hs => ?_)⟩, hB, l.trans (hf.below l.size (fun x hx hs => ?_)), h1, h2, fun m e => ?_⟩, hL⟩
  · rcases hs with hs | hs
    · have : x < w0.heap.size := hz; omega
    · have h4 := h3 _ hs; have : x < w0.heap.size := hz; omega
  · rcases hs with hs | hs
    · omega
    · have h4 := h3 _ hs; omega
  · rcases hm m e with h4 | h4
    · exact h3 m h4
    · have := l.size; omega
theorem itemsB_drop (T : List (List UInt8 × LP)) (i : Nat) (hi : i < T.length) : itemsB (T.drop i) = textB T[i].1 ++ (leafB T[i].2.1 T[i].2.2 ++ itemsB (T.drop (i + 1))) := by
  rw [List.drop_eq_getElem_cons hi]
  unfold itemsB
  rw [List.flatMap_cons, List.append_assoc]
theorem itemsB_part {T : List (List UInt8 × LP)} (h : TreeOk T) (i : Nat) : (itemsB (T.drop i)).length ≤ 700000 := by
  have h1 := itemsB_len (T.drop i) (fun x hx => ⟨(h.good x (List.mem_of_mem_drop hx)).1, (h.good x (List.mem_of_mem_drop hx)).2.2⟩)
  have h3 := h.len
  rw [List.length_drop] at h1
  omega

set_option maxRecDepth 100000 in
set_option maxHeartbeats 4000000 in
theorem canonRead_good (hS : SortsT) (A : Option Addr) (c : Nat) (l : List UInt8) (T : List (List UInt8 × LP)) (w : World) (hlT : Hid (l = canonB T)) (ht : TreeOk T) (hd : DirsOk T) (h : By w (fun b => b < w.heap.size) A l) (h1 : l.length ≤ c) (h2 : c ≤ maxLen) :
    Calls Tryz.prog 9 #[.slice A l.length c] w fun e w' => ∃ tb mo LL, e = .returned (.tuple #[.pointer (some ⟨tb, 0, none⟩), .int .i64 0]) ∧ TreeAt w' tb mo LL ∧ Hid (plainL LL = T) ∧ Below w.heap.size w w' := by
  have he1 := EyeAt.new w (T := 107) h h1 h2
  have hba : Below w.heap.size w (w.alloc (.cells #[.slice A l.length c, .int .i64 0] 107)) := (Below.refl _ _).alloc (Nat.le_refl _) _
  have hTl := ht.len
  have HZ : Hid (¬ (fun b => b < w.heap.size) w.heap.size) := Lib.hid (by simp)
  have HIN : Hid (intS l 0 128 = (T.length, itemsB (T.drop 0), 0)) := Lib.hid (by
    rw [hlT.out]
    unfold canonB
    rw [int_numB _ (by omega) (by omega), List.drop_zero])
  have HE1 := Lib.hid he1
  have HT := Lib.hid ht
  have HD := Lib.hid hd
  clear h he1 ht hd hlT
  go_enter Tryz.func9, Tryz.ntmps9
  go_wp2_with fail
  refine (open_any A c l.length w).mono ?_
  rintro e w1 ⟨rfl, rfl⟩
  generalize w.alloc (.cells #[.slice A l.length c, .int .i64 0] 107) = w1 at *
  have hbb : Below w1.heap.size w1 (w1.alloc (.cells #[.map none] 66)) := (Below.refl _ _).alloc (Nat.le_refl _) _
  have hK3 : TrEye w (w1.alloc (.cells #[.map none] 66)) w.heap.size l 0 w1.heap.size none [] := ⟨⟨A, c, HE1.out.below hbb⟩, TreeAt.new w1, hba.trans (hbb.mono hba.size), Nat.le_refl _, hba.size, by simp⟩
  obtain ⟨A3, c3, hA3⟩ := hK3.e
  have HIT := Lib.hid (int_any w.heap.size _ A3 c3 l 0 128 _ hA3 HZ.out (by decide))
  rw [HIN.out] at HIT
  have HK3 := Lib.hid hK3
  clear HE1 hbb hba hA3 hK3
  go_upto_region 4 with (fail)
  generalize w1.alloc (.cells #[.map none] 66) = w3 at *
  obtain ⟨tb, hbb⟩ : ∃ tb, tb = w1.heap.size := ⟨_, rfl⟩
  rw [← hbb] at HK3 ⊢
  clear hbb
  go_wp2_with fail
  refine HIT.out.mono ?_
  rintro e w4 ⟨rfl, ht4⟩
  have HK4 := Lib.hid (HK3.out.eye ht4)
  clear HIT ht4 HK3
  go_wp2_with fail
  go_loopw [6, 7] (fun lv iv wr => ∃ (m i : Nat) (last : ByteArray) (mo : Option Nat) (LL : List (List UInt8 × LV)), iv = .int .i64 (m : Int) ∧ lv = .string last ∧ i + m = T.length ∧ TrEye w wr w.heap.size (itemsB (T.drop i)) 0 tb mo LL ∧ Hid (plainL LL = T.take i) ∧ Hid (tl last = [] ∨ ∀ (hi : i < T.length), cmpT (tl last) T[i].1 < 0) ∧ (tl last).length ≤ 96) (fun _ iv _ => (intOf iv).toNat)
  case atStart => exact ⟨T.length, 0, ⟨#[]⟩, none, [], rfl, rfl, by omega, HK4.out, rfl, .inl rfl, by decide⟩
  case round =>
    obtain ⟨m, i, ⟨⟨lq⟩⟩, mo, LL, rfl, rfl, hm, hK, hpl, hlast, hlq⟩ := hrel
    replace hlq : lq.length ≤ 96 := hlq
    obtain ⟨A4, c4, hA4⟩ := hK.e
    have HFT := Lib.hid (fault_any w.heap.size _ A4 c4 (itemsB (T.drop i)) 0 wr hA4)
    have HKR := Lib.hid hK
    have helt := hA4.1.lt
    clear HK4
    by_cases hmf : 0 < m
    · obtain ⟨m, rfl⟩ : ∃ k, m = k + 1 := ⟨m - 1, by omega⟩
      have hi : i < T.length := by omega
      have hmay := build_may HT.out HD.out hi
      have hset := build_set HT.out HD.out hi
      rw [← hpl.out] at hmay hset
      have hdr := itemsB_drop T i hi
      have hRl := itemsB_part HT.out (i + 1)
      obtain ⟨hg1, hg2, hg3⟩ := HT.out.good _ (List.getElem_mem hi)
      have hgl := goodB_len hg1
      have hgn := checkN_small hg3
      have HNX : Hid (T[i].1 = [] ∨ ∀ (hj : i + 1 < T.length), cmpT T[i].1 T[i + 1].1 < 0) := Lib.hid (.inr fun hj => sort_at HT.out.sort hi hj (by omega))
      have hls := hlast.out
      replace hls : lq = [] ∨ cmpT lq T[i].1 < 0 := hls.imp id (fun h => h hi)
      generalize T[i] = y at hmay hset hdr hg1 hg2 hg3 hgl hgn HNX hls
      obtain ⟨pl, ky, ly⟩ := y
      dsimp only at hmay hset hdr hg1 hg2 hg3 hgl hgn hls
      obtain ⟨kn, rfl⟩ : ∃ kn : Nat, ky = (kn : Int) := ⟨ky.toNat, by rcases hg2 with e | e <;> rw [e] <;> rfl⟩
      have hkb : ((kn : Int) == 0) = false := by simp; omega
      have HLB : Hid (leafS (leafB (kn : Int) ly ++ itemsB (T.drop (i + 1))) 0 = (kn, ly, itemsB (T.drop (i + 1)), 0)) := Lib.hid (by
        rw [leafS_back]
        unfold backK backL
        rw [if_neg (by simpa using hg3), if_neg (by simpa using hg3), Int.toNat_natCast])
      obtain ⟨R, hR⟩ : ∃ R, R = itemsB (T.drop (i + 1)) := ⟨_, rfl⟩
      have HRR := Lib.hid hR
      rw [← hR] at hdr HLB hRl
      have HMAY := Lib.hid hmay
      have HSET := Lib.hid hset
      rw [hdr] at hA4 hK
      have hll := leafB_len (kn : Int) ly
      have htl : (textB pl).length ≤ 9 + pl.length := by unfold textB; rw [List.length_append]; have := numB_len pl.length; omega
      have HTX := Lib.hid (text_any w.heap.size _ A4 c4 _ 0 96 wr hA4 HZ.out (by decide) (by rw [List.length_append, List.length_append]; omega))
      rw [text_textB _ (by omega) (by omega)] at HTX
      have HLS := Lib.hid hls
      clear hmay hset hdr hg1 hg2 hg3 hlast hR hA4 hls
      go_wp2_with fail
      refine HFT.out.mono ?_
      rintro e wf ⟨rfl, rfl⟩
      go_wp2_with fail
      refine HTX.out.mono ?_
      rintro e w5 ⟨A2, c2, l2, rfl, hl2, ho2, ht5⟩
      have hK5 := hK.eye ht5
      have k1 := conv_by ho2.rd c2
      replace hl2 : Hid (l2 = pl) := hl2
      rw [hl2.out] at k1 ⊢
      obtain ⟨A6, c6, hA6⟩ := hK5.e
      have HRD := Lib.hid (leafRead_any w.heap.size _ A6 c6 (leafB (kn : Int) ly ++ R) 0 w5 hA6 HZ.out (by rw [List.length_append]; omega))
      rw [HLB.out] at HRD
      clear hK HTX HFT HKR ht5 hA6
      go_wp2_with fail
      refine HRD.out.mono ?_
      rintro e w6 ⟨A5, c5, l5, rfl, hl5, ho5, ht6⟩
      have hl5l : l5.length ≤ 140737488355328 := by rw [hl5.out]; omega
      replace hl5 : Hid (l5 = ly) := hl5
      have hK6 := hK5.eye ht6
      have hba : Below w6.heap.size w6 (w6.alloc (.cells #[.int .i64 (kn : Int), .slice A5 l5.length c5] 46)) := (Below.refl _ _).alloc (Nat.le_refl _) _
      have z7 := Blk.new w6 46 #[.int .i64 (kn : Int), .slice A5 l5.length c5]
      have HK7 := Lib.hid (hK6.mem hba)
      have HO7 := Lib.hid (ho5.below hba)
      have HY7 := Lib.hid HO7.out.rd
      clear hK5 hK6 ho5 ht6 HRD k1 ho2 hl2
      go_upto_region 10 with (fail)
      obtain ⟨xb, hxb⟩ : ∃ xb, xb = w6.heap.size := ⟨_, rfl⟩
      rw [← hxb] at z7 ⊢
      generalize w6.alloc (.cells #[.int .i64 (kn : Int), .slice A5 l5.length c5] 46) = w7 at *
      clear hba hxb
      have HMAY2 : Hid (mayS (plainL LL) pl ((kn : Int), l5) = 0) := Lib.hid (by rw [hl5.out]; exact HMAY.out)
      have HSET2 : Hid (setS (plainL LL) pl ((kn : Int), l5) = T.take (i + 1)) := Lib.hid (by rw [hl5.out]; exact HSET.out)
      obtain ⟨A7, c7, hA7⟩ := HK7.out.e
      have HFT7 := Lib.hid (fault_any w.heap.size _ A7 c7 R 0 w7 hA7)
      have hxl := z7.lt
      have q0 := z7.cell 0
      simp only [List.getElem?_toArray, List.getElem?_cons_zero] at q0
      clear hA7 HMAY HSET
      go_wp2_with fail
      refine HFT7.out.mono ?_
      rintro e wf ⟨rfl, rfl⟩
      by_cases hq : lq = []
      · subst hq
        clear HLS HFT7
        have HPT := Lib.hid (treeSet_any hS tb mo LL pl (kn : Int) A5 c5 l5 _ w7 HK7.out.t HY7.out (by omega) (by omega))
        rw [HMAY2.out, HSET2.out] at HPT
        have HBK := Lib.hid HK7.out
        have p0 := z7.cell 0
        have p1 := z7.cell 1
        simp only [List.getElem?_toArray, List.getElem?_cons_zero, List.getElem?_cons_succ] at p0 p1
        go_wp2_with fail
        refine HPT.out.mono ?_
        rintro e w9 ⟨rfl, hto⟩
        obtain ⟨mo', LL', hK9, hL9⟩ := HBK.out.tree hto
        obtain ⟨A9, c9, hA9⟩ := hK9.e
        have HFL := Lib.hid (fail_any w.heap.size _ A9 c9 R 0 0 w9 hA9)
        clear HPT hto p0 p1
        go_wp2_with fail
        refine HFL.out.mono ?_
        rintro e w10 ⟨rfl, ht10⟩
        have hK10 := hK9.eye ht10
        go_wp2_with fail
        go_roundw
        case rel => exact ⟨m, i + 1, ⟨⟨pl⟩⟩, mo', LL', by go_num, rfl, by omega, by rw [← HRR.out]; exact hK10, hL9, HNX.out, by show pl.length ≤ _; omega⟩
        case measure => simp [intOf]
      · have hcm : cmpT lq pl < 0 := by
          rcases HLS.out with e | e
          · exact absurd e hq
          · exact e
        have hqn : (lq != []) = true := by simpa using hq
        have hq3 : (lq == []) = false := by simpa using hq
        have HCP := Lib.hid (compare_any ⟨⟨lq⟩⟩ ⟨⟨pl⟩⟩ (by show lq.length ≤ _; omega) (by show pl.length ≤ _; omega) w7)
        rw [show cmpT (tl ⟨⟨lq⟩⟩) (tl ⟨⟨pl⟩⟩) = cmpT lq pl from rfl] at HCP
        clear HLS HFT7
        generalize cmpT lq pl = cm at *
        have hcd : decide (0 ≤ cm) = false := decide_eq_false (by omega)
        go_wp2_with fail
        refine HCP.out.mono ?_
        rintro e w8 ⟨rfl, hq8⟩
        have HK8 := Lib.hid (HK7.out.mem hq8.below)
        have z8 := z7.below hq8.below
        have HY8 := Lib.hid (HO7.out.below hq8.below).rd
        clear HCP q0 z7 HO7 HK7 HY7
        have HPT := Lib.hid (treeSet_any hS tb mo LL pl (kn : Int) A5 c5 l5 _ w8 HK8.out.t HY8.out (by omega) (by omega))
        rw [HMAY2.out, HSET2.out] at HPT
        have HBK := Lib.hid HK8.out
        have p0 := z8.cell 0
        have p1 := z8.cell 1
        simp only [List.getElem?_toArray, List.getElem?_cons_zero, List.getElem?_cons_succ] at p0 p1
        go_wp2_with fail
        refine HPT.out.mono ?_
        rintro e w9 ⟨rfl, hto⟩
        obtain ⟨mo', LL', hK9, hL9⟩ := HBK.out.tree hto
        obtain ⟨A9, c9, hA9⟩ := hK9.e
        have HFL := Lib.hid (fail_any w.heap.size _ A9 c9 R 0 0 w9 hA9)
        clear HPT hto p0 p1
        go_wp2_with fail
        refine HFL.out.mono ?_
        rintro e w10 ⟨rfl, ht10⟩
        have hK10 := hK9.eye ht10
        go_wp2_with fail
        go_roundw
        case rel => exact ⟨m, i + 1, ⟨⟨pl⟩⟩, mo', LL', by go_num, rfl, by omega, by rw [← HRR.out]; exact hK10, hL9, HNX.out, by show pl.length ≤ _; omega⟩
        case measure => simp [intOf]
    · obtain rfl : m = 0 := by omega
      obtain rfl : i = T.length := by omega
      have hnil : itemsB (T.drop T.length) = [] := by rw [List.drop_length]; rfl
      rw [hnil] at hA4 HKR
      rw [List.take_length] at hpl
      have HCL := Lib.hid (close_any w.heap.size _ A4 c4 [] 0 wr hA4)
      rw [show closeS [] 0 = 0 from rfl] at HCL
      clear hK hnil hA4 hlast
      go_wp2_with fail
      refine HCL.out.mono ?_
      rintro e wf ⟨rfl, rfl⟩
      go_wp2_with fail
      refine bodyPost_ret (v := .tuple #[.pointer (some ⟨tb, 0, none⟩), .int .i64 0]) (by simp [results, Tryz.results9, go_sem]) rfl ?_
      exact ⟨tb, mo, LL, rfl, HKR.out.t, hpl, HKR.out.low⟩

end Go.Proofs.YtjcfphdjgagimaaGreatDoor

/- tenderlaw09.lives. -/
namespace Go.Proofs.YtjcfphdjgagimaaGreatDoor
open Go.RowKit Go.Maps

/-- two digests, the same -/
theorem digest_same (R : List UInt8) (h : R.length = 32) (w : World) : (Op.equalIn 10000 37 (.agg (R.map bv).toArray) (.agg (R.map bv).toArray)).run Tryz.prog w = .ok true w := by
  have h1 := run_equalIn_bytes (P := Tryz.prog) w 9998 37 5 32 Tryz.underlying37 Tryz.underlying5 (fun w => by kernel_rfl) R R h h
  rw [show (R == R) = true by simp] at h1
  exact h1

theorem zero_by (w : World) : By (w.alloc (.cells #[.int .u8 0] 5)) (fun b => w.heap.size ≤ b) (some ⟨w.heap.size, 0, none⟩) [0] := Rd.lit (w := w) (t := 5) (size := 1) (n := 1) (xs := [.int .u8 0]) rfl rfl rfl
set_option maxRecDepth 100000 in
set_option maxHeartbeats 2000000 in
theorem lives09_any (w : World) (hG : Globs w) :
    Calls Tryz.prog 6 #[] w fun e w' => e = .returned (.bool true) ∧ Below w.heap.size w w' := by
  have hw1 : Below w.heap.size w (w.alloc (.cells #[.int .u8 0] 5)) := (Below.refl _ _).alloc (Nat.le_refl _) _
  have HG1 := Lib.hid (hG.below hw1)
  have HRD := Lib.hid (canonRead_good sortsT (some ⟨w.heap.size, 0, none⟩) 1 [0] [] _ (Lib.hid canonB_nil.symm) TreeOk.nil DirsOk.nil ((zero_by w).mono (fun b hb _ => hb)) (by decide) (by decide))
  obtain ⟨R, hR⟩ : ∃ R, R = shaS [0] := ⟨_, rfl⟩
  have hRl : R.length = 32 := by rw [hR]; exact sha_len _
  have hds := fun w => digest_same R hRl w
  obtain ⟨D, hD⟩ : ∃ D, D = (R.map bv).toArray := ⟨_, rfl⟩
  rw [← hD] at hds
  have HD : Hid (((shaS [0]).map bv).toArray = D) := Lib.hid (by rw [hD, hR])
  clear hR hD hRl hG
  go_enter Tryz.func6, Tryz.ntmps6
  go_wp2_with fail
  generalize w.alloc (.cells #[.int .u8 0] 5) = w1 at *
  refine HRD.out.mono ?_
  rintro e w2 ⟨tb, mo, LL, rfl, ht, hpl, hb2⟩
  have hw2 := hw1.trans (hb2.mono hw1.size)
  have HG2 := Lib.hid (HG1.out.below hb2)
  have HT2 := Lib.hid ht
  have hLL : LL.length = 0 := by have := congrArg List.length hpl.out; rwa [plain_len] at this
  clear HRD ht hb2 HG1
  go_wp2_with fail
  refine (canonBytes_nil w2).mono ?_
  rintro e w3 ⟨A3, c3, l3, rfl, hl3, ho3, hb3⟩
  have k3 := conv_by ho3.rd c3
  have HL3 : Hid (l3 = [0]) := Lib.hid (by rw [hl3.out, canonB_nil])
  rw [HL3.out] at k3 ⊢
  replace k3 : (convert 29 9 (.slice A3 1 c3)).run Tryz.prog w3 = .ok (.string ⟨#[0]⟩) w3 := k3
  have hw3 := hw2.trans (hb3.mono hw2.size)
  have HG3 := Lib.hid (HG2.out.below hb3)
  have HT3 := Lib.hid (HT2.out.below hb3)
  clear HT2 HG2 ho3 hb3
  go_wp2_with fail
  refine (treeLen_any tb mo LL w3 HT3.out).mono ?_
  rintro e w4 ⟨rfl, rfl⟩
  rw [hLL]
  clear k3 hl3 HL3 HT3 hpl
  go_wp2_with fail
  refine (canonSum_nil w3 HG3.out).mono ?_
  rw [canonB_nil, HD.out]
  rintro e w5 ⟨rfl, hb5⟩
  have hw5 := hw3.trans (hb5.mono hw3.size)
  have HG5 := Lib.hid (HG3.out.below hb5)
  have hw6 : Below w5.heap.size w5 (w5.alloc (.cells #[.int .u8 0] 5)) := (Below.refl _ _).alloc (Nat.le_refl _) _
  have HS := Lib.hid (sumB_any (some ⟨w5.heap.size, 0, none⟩) 1 [0] _ _ ⟨zero_by w5, Nat.le_refl _, show (1 : Nat) ≤ maxLen by decide⟩ (HG5.out.below hw6) (by decide))
  have hw56 := hw5.trans (hw6.mono hw5.size)
  rw [HD.out] at HS
  clear HG3 hb5 HG5 hw6 HD
  go_wp2_with fail
  generalize w5.alloc (.cells #[.int .u8 0] 5) = w6 at *
  refine HS.out.mono ?_
  rintro e w7 ⟨rfl, hb7⟩
  have hw7 := hw56.trans (hb7.mono hw56.size)
  clear HS hb7
  go_wp2_with fail
  go_ret
  exact ⟨rfl, hw7⟩

end Go.Proofs.YtjcfphdjgagimaaGreatDoor

/- CanonAt is true for every input: the digest of what is at any path of a tree, and of all of it, is the document's. -/
namespace Go.Proofs.YtjcfphdjgagimaaGreatDoor
open Go.RowKit Go.Maps

set_option maxRecDepth 100000 in
set_option maxHeartbeats 2000000 in
theorem canonAt_any (A : Option Addr) (c : Nat) (l : List (List UInt8 × LV)) (p : List UInt8) (w : World) (h : ItA w A l) (hp : p.length ≤ 140737488355328) (hG : Globs w) :
    Calls Tryz.prog 4 #[.slice A l.length c, .string ⟨⟨p⟩⟩] w fun e w' => e = .returned (.bool true) ∧ Below w.heap.size w w' := by
  have HL := Lib.hid (lightI_any A c l w h)
  have HA := Lib.hid h
  have HG := Lib.hid hG
  clear h hG
  rcases hli : lightI l with _ | _
  · rw [hli] at HL
    go_enter Tryz.func4, Tryz.ntmps4
    go_wp2_with fail
    refine HL.out.mono ?_
    rintro e w1 ⟨rfl, hwE⟩
    have HGE := Lib.hid (HG.out.below hwE)
    go_wp2_with fail
    refine (lives09_any _ HGE.out).mono ?_
    rintro e wz ⟨rfl, hbz⟩
    go_wp2_with fail
    go_ret
    exact ⟨rfl, hwE.trans (hbz.mono hwE.size)⟩
  · rw [hli] at HL
    have hll := lightI_len hli
    by_cases hl12 : l.length ≤ 12
    · have hl12i : ¬ (l.length : Int) > 12 := by omega
      by_cases hp100 : p.length ≤ 100
      · have hp100i : ¬ (p.length : Int) > 100 := by omega
        go_enter Tryz.func4, Tryz.ntmps4
        go_wp2_with fail
        refine HL.out.mono ?_
        rintro e w1 ⟨rfl, hw1⟩
        go_wp2_with fail
        refine (plays08_any A c l w1 (HA.out.below hw1) hll).mono ?_
        rintro e w2 ⟨tb, mo, L, B, d, M, rfl, hP, htb, hmo, hb2⟩
        have hw2 := hw1.trans (hb2.mono hw1.size)
        have HG2 := Lib.hid (HG.out.below hw2)
        generalize playS [] (plainL l) = T at *
        have hok : TreeOk T := by rw [← hP.plain.out]; exact hP.tree.plain
        have HOK := Lib.hid hok
        have HP := Lib.hid hP
        obtain ⟨R1, hR1⟩ : ∃ R, R = atS T 101 p := ⟨_, rfl⟩
        obtain ⟨R2, hR2⟩ : ∃ R, R = atS T 101 [] := ⟨_, rfl⟩
        have hl1 : R1.length = 32 := by rw [hR1]; exact atS_len T 100 p
        have hl2 : R2.length = 32 := by rw [hR2]; exact atS_len T 100 []
        have hd1 := fun w => digest_same R1 hl1 w
        have hd2 := fun w => digest_same R2 hl2 w
        have HC1 := Lib.hid (fun W (hW : Below w2.heap.size w2 W) => atW_any T hok 101 p tb mo L W (hP.tree.below hW) hP.plain (HG2.out.below hW) hp100 (by omega))
        have HC2 := Lib.hid (fun W (hW : Below w2.heap.size w2 W) => atR_any T hok 101 p B d M W (hP.its.below hW) hP.same hp100 (by omega))
        have HC3 := Lib.hid (fun W (hW : Below w2.heap.size w2 W) => atW_any T hok 101 [] tb mo L W (hP.tree.below hW) hP.plain (HG2.out.below hW) (by simp) (by simp))
        have HC4 := Lib.hid (fun W (hW : Below w2.heap.size w2 W) => atR_any T hok 101 [] B d M W (hP.its.below hW) hP.same (by simp) (by simp))
        rw [← hR1] at HC1 HC2
        rw [← hR2] at HC3 HC4
        obtain ⟨D1, hD1⟩ : ∃ D, D = (R1.map bv).toArray := ⟨_, rfl⟩
        obtain ⟨D2, hD2⟩ : ∃ D, D = (R2.map bv).toArray := ⟨_, rfl⟩
        rw [← hD1] at HC1 HC2 hd1
        rw [← hD2] at HC3 HC4 hd2
        clear hR1 hR2 hl1 hl2 hD1 hD2 hok hP HL HA HG hll hli htb hmo hb2 hw1
        go_wp2_with fail
        refine (HC1.out w2 (Below.refl _ _)).mono ?_
        rintro e w3 ⟨rfl, hb3⟩
        clear HC1
        go_wp2_with fail
        refine (HC2.out w3 hb3).mono ?_
        rintro e w4 ⟨rfl, hb4⟩
        have hq4 := hb3.trans (hb4.mono hb3.size)
        clear HC2 hb3 hb4
        go_wp2_with fail
        refine (HC3.out w4 hq4).mono ?_
        rintro e w5 ⟨rfl, hb5⟩
        have hq5 := hq4.trans (hb5.mono hq4.size)
        clear HC3 hq4 hb5
        go_wp2_with fail
        refine (HC4.out w5 hq5).mono ?_
        rintro e w6 ⟨rfl, hb6⟩
        have hq6 := hq5.trans (hb6.mono hq5.size)
        have HGE := Lib.hid (HG2.out.below hq6)
        have hwE := hw2.trans (hq6.mono hw2.size)
        clear HC4 hq5 hb6 hq6
        go_wp2_with fail
        refine (lives09_any _ HGE.out).mono ?_
        rintro e wz ⟨rfl, hbz⟩
        go_wp2_with fail
        go_ret
        exact ⟨rfl, hwE.trans (hbz.mono hwE.size)⟩
      · have hp100i : (p.length : Int) > 100 := by omega
        go_enter Tryz.func4, Tryz.ntmps4
        go_wp2_with fail
        refine HL.out.mono ?_
        rintro e w1 ⟨rfl, hwE⟩
        have HGE := Lib.hid (HG.out.below hwE)
        go_wp2_with fail
        refine (lives09_any _ HGE.out).mono ?_
        rintro e wz ⟨rfl, hbz⟩
        go_wp2_with fail
        go_ret
        exact ⟨rfl, hwE.trans (hbz.mono hwE.size)⟩
    · have hl12i : (l.length : Int) > 12 := by omega
      go_enter Tryz.func4, Tryz.ntmps4
      go_wp2_with fail
      refine HL.out.mono ?_
      rintro e w1 ⟨rfl, hwE⟩
      have HGE := Lib.hid (HG.out.below hwE)
      go_wp2_with fail
      refine (lives09_any _ HGE.out).mono ?_
      rintro e wz ⟨rfl, hbz⟩
      go_wp2_with fail
      go_ret
      exact ⟨rfl, hwE.trans (hbz.mono hwE.size)⟩

end Go.Proofs.YtjcfphdjgagimaaGreatDoor

/- From a law's contract to its row, where the row lists the two tables of package sha as they are laid. -/
namespace Go.Proofs.YtjcfphdjgagimaaGreatDoor
open Go.RowKit Go.WideShapes Go.ChangeShapes Go.ChangeAt

def firstZ : List Int := first8.l.map fun n : Nat => (n : Int)
def rootsZ : List Int := rootsK.map fun n : Nat => (n : Int)
theorem first_laid : (Rows.laid_tender_sha_first : DataW Unit) = Lib.tabData .u32 firstZ := by kernel_rfl
theorem roots_laid : (Rows.laid_tender_sha_roots : DataW Unit) = Lib.tabData .u32 rootsZ := by kernel_rfl
abbrev laidSha : List (String × DataW Unit) := [("tender/sha.first", Rows.laid_tender_sha_first), ("tender/sha.roots", Rows.laid_tender_sha_roots)]
theorem map_at (L : List Nat) (i : Nat) : (L.map fun n : Nat => (n : Int)).getD i 0 = ((L.getD i 0 : Nat) : Int) := by
  rw [List.getD_eq_getElem?_getD, List.getD_eq_getElem?_getD, List.getElem?_map]
  cases L[i]? <;> rfl
/-- what is listed is met: the tables lie as laid -/
theorem globs_laid {W : World} (h : laidMet Tryz.prog laidSha W) : Globs W := by
  have hg0 : Tryz.prog.globalNamed "tender/sha.first" = some 0 := by kernel_rfl
  have hg1 : Tryz.prog.globalNamed "tender/sha.roots" = some 1 := by kernel_rfl
  have ht0 : (Tryz.prog.globals[0]?).map (·.type) = some 77 := by kernel_rfl
  have ht1 : (Tryz.prog.globals[1]?).map (·.type) = some 127 := by kernel_rfl
  have hce : Tryz.prog.cellsOf 76 = 1 := by kernel_rfl
  have hc0 : Tryz.prog.cellsOf 77 = 8 := by kernel_rfl
  have hc1 : Tryz.prog.cellsOf 127 = 64 := by kernel_rfl
  obtain ⟨ps, ⟨g, t, cs, fuel, p, q, a1, a2, a3, a4, ⟨g', t', cs', fuel', p', q', b1, b2, b3, b4, b5, b6⟩, a6⟩, _⟩ := h
  obtain rfl := Option.some.inj (hg0.symm.trans a1)
  obtain rfl := Option.some.inj (ht0.symm.trans a2)
  obtain rfl := Option.some.inj (hg1.symm.trans b1)
  obtain rfl := Option.some.inj (ht1.symm.trans b2)
  rw [first_laid] at a4
  rw [roots_laid] at b4
  have h0 : Lib.TabIs Tryz.prog W "tender/sha.first" .u32 firstZ := by
    unfold Lib.TabIs
    rw [a3, ← Lib.cells_of_tab Tryz.underlying77 Tryz.underlying76 hce hc0 a4]
  have h1 : Lib.TabIs Tryz.prog W "tender/sha.roots" .u32 rootsZ := by
    unfold Lib.TabIs
    rw [b3, ← Lib.cells_of_tab Tryz.underlying127 Tryz.underlying76 hce hc1 b4]
  have hb : ∀ i, i < 64 → W.cell? ⟨1, i, none⟩ = some (.int .u32 ((rootsK.getD i 0 : Nat) : Int)) := fun i hi => by
    rw [h1.cell hg1 i (by rw [show rootsZ.length = 64 by kernel_rfl]; exact hi), rootsZ, map_at]
  exact ⟨fun i hi => by rw [h0.cell hg0 i (by rw [show firstZ.length = 8 by kernel_rfl]; exact hi), firstZ, map_at], hb, by
    have := World.block_lt_of_cell? _ _ (hb 0 (by omega))
    exact this⟩

/-- a block's cells set anew -/
def setCells (cs : Array Value) : Obj → Obj
  | .cells _ t frozen => .cells cs t frozen
  | o => o
/-- the settled world, the tables as their initialisers lay them -/
noncomputable def laidWorld (os : Os) : World :=
  { World.holding Tryz.prog os ⟨#[], #[], []⟩ with heap := ((World.holding Tryz.prog os ⟨#[], #[], []⟩).heap.modify 0 (setCells (firstZ.map fun z => Value.int .u32 z).toArray)).modify 1 (setCells (rootsZ.map fun z => Value.int .u32 z).toArray) }
theorem laid_met (os : Os) (args : Array Value) : laidMet Tryz.prog laidSha ((laidWorld os).forCall (fun _ _ => 0) ⟨#[], args, []⟩).memory :=
  laidMet_of_run' 8 (by kernel_rfl) (by kernel_rfl)

set_option maxRecDepth 100000 in
theorem law_lift_laid {os : Os} (started : os.Started) {H : Type} {enc : TypeId × Value → H} {k : FuncId} {fn : Func} {s : ChangeSpec}
    (noInit : Tryz.checked.prog.inits.idxOf? k = none) (hfn : Tryz.prog.funcs[k]? = some fn)
    (hrt : fn.resultTypes = #[4]) (hvars : s.vars = [])
    (hread : ∀ t ∈ fn.params.toList, Tryz.prog.readableRec t = true ∧ t < Tryz.prog.types.size)
    (hs : ∀ ds : List (DataW H), ds.length = fn.params.toList.length → s.fn H ds = { results := [.lit (.bool true)], args := ds })
    (witness : ∃ (w : World) (tape : Tape) (i : Input), w.os = os ∧ (w.forCall tape i).Shaped Tryz.checked.prog ∧ i.vars = [] ∧ Input.okWide Tryz.checked.prog (w.forCall tape i) .any w.heap.size k i ∧
      ((s.pre enc Tryz.checked.prog fn [] false (w.forCall tape i).memory i.args ∧ laidMet Tryz.prog laidSha (w.forCall tape i).memory) ∧ sizedMet enc Tryz.checked.prog fn (OpenSpec.ofChange s) false (w.forCall tape i).memory i.args) ∧ ({} : Assume).holds Tryz.checked.prog (lone (Frame.enter Tryz.checked.prog k i.args .normal) [] (w.forCall tape i)))
    (contract : ∀ (W : World) (base : Nat) (args : Array Value) (ds : List (DataW H)) (ps : List MemPlace),
      (∀ (j : Nat) t v, fn.params[j]? = some t → args[j]? = some v → Value.okWide Tryz.prog W .any base t v) →
      DataW.TrodAll enc Tryz.prog W 0 (fun _ => true) true fn.params.toList args.toList ds ps →
      (∀ p ∈ ps, p.block < W.heap.size) →
      (DataW.weightsEach Tryz.prog fn.params.toList ds).all (· ≤ reachBytes) = true → Globs W →
      Calls Tryz.prog k args W fun e W' => e = .returned (.bool true) ∧ Below W.heap.size W W') :
    ReturnsInHanded {} Tryz.checked os k .any (fun w args => (s.pre enc Tryz.checked.prog fn [] false w args ∧ laidMet Tryz.prog laidSha w) ∧ sizedMet enc Tryz.checked.prog fn (OpenSpec.ofChange s) false w args) (s.post enc Tryz.checked.prog fn false true false false) := by
  refine returnsInHanded_of_change_and (C := Tryz.checked) (X := fun w _ => laidMet Tryz.prog laidSha w) (fun _ _ _ hh h => h.of_heap hh) Tryz.own started noInit hfn witness ?_
  intro W base args ds gs before hval hW _ hsz hL _
  have hW' := hW
  obtain ⟨p, q, hA, hV, rfl, hfz, hnd⟩ := hW
  rw [hvars] at hV
  obtain ⟨rfl, rfl⟩ := trodVars_none hV
  have hlt : ∀ x ∈ p, x.block < W.heap.size := fun x hx => hW'.lt x (by simp [hx])
  have hlen : ds.length = fn.params.toList.length := trodAll_len _ _ _ _ hA
  have hsz' : (DataW.weightsEach Tryz.prog fn.params.toList ds).all (· ≤ reachBytes) = true := by
    have hv : s.plain.varTypes Tryz.checked.prog = [] := by simp only [ChangeSpec.plain, hvars]; rfl
    rw [hv, List.append_nil, List.append_nil] at hsz
    exact hsz
  refine (contract W base args ds p hval hA hlt hsz' (globs_laid hL)).mono fun e W' ⟨he, hb⟩ => ?_
  have e1 : s.fn H (ds ++ []) = { results := [.lit (.bool true)], args := ds } := by rw [List.append_nil]; exact hs ds hlen
  refine ⟨_, he, post_below (pa := p) (pv := []) hW' ?_ ?_ ?_ rfl hb ?_⟩
  · intro b sp hd
    rw [e1, hrt]
    exact trodAll_mk1 (shut_bool Tryz.underlying4 true)
  · intro sp hsp
    rw [e1]
    exact trodAll_stays hb _ _ _ _ hread hA (fun x hx => ⟨hlt x hx, hsp x (by simp [hx])⟩)
  · intro sp hsp
    rw [e1, hvars]
    rfl
  · exact ok_one hrt rfl (okWide_bool_mk Tryz.underlying4 true)
end Go.Proofs.YtjcfphdjgagimaaGreatDoor

/- Arguments opened: strings. -/
namespace Go.Proofs.YtjcfphdjgagimaaGreatDoor
open Go.RowKit Go.WideShapes Go.ChangeShapes Go.ChangeAt Go.ChangeMaps

section
variable {H : Type} {enc : TypeId × Value → H} {w : World} {spare : Nat → Bool} {held : Bool}
set_option maxRecDepth 100000 in
/-- a string -/
theorem open_str {r : Reach} {b0 : Nat} {v : Value} {d : DataW H} {p : List MemPlace} (hv : Value.okWide Tryz.prog w r b0 9 v) (h : DataW.Trod enc Tryz.prog w 0 spare held 9 v d p) (hw : Within 9 (d, p)) :
    ∃ s : ByteArray, v = .string s ∧ s.size ≤ 140737488355328 := by
  obtain ⟨s, rfl, hd, _, _⟩ := open_string Tryz.underlying9 hv h
  refine ⟨s, rfl, ?_⟩
  have h1 := hw s.data.toList.length (by rw [hd]; simp [DataW.weights])
  have h2 := reachBytes_lt
  have h3 : s.data.toList.length = s.size := tl_len s
  omega
end

end Go.Proofs.YtjcfphdjgagimaaGreatDoor
