/- tenderref25: Changes, the paths in order. -/
import Derived.Test.YtkeledbgmpienaaGreatA12

namespace Go.Proofs.YtkeledbgmpienaaGreat
open Go.RowKit Go.Maps

theorem findE_k (T : List (List UInt8 × EP)) (p : ByteArray) (M : List EV) (h : M.map EV.pl = T) : (findE p M).k = kindP T (tl p) := by
  have h1 := find_ep p M
  have h2 : (findE p M).k = (findE p M).pl.2.2.1 := rfl
  rw [h2, h1, h]
  unfold kindP
  rcases getR T (tl p) with _ | o <;> rfl
theorem set_eq {al : List RV} {F : List (List UInt8)} (hs : sortedS F) (hm : ∀ q, q ∈ F ↔ q ∈ al.map fun x => tl x.p) : F = pathsR al :=
  sorted_eq hs (pathsR_sort al) fun q => by rw [hm, pathsR_mem]

set_option maxRecDepth 100000 in
set_option maxHeartbeats 8000000 in
theorem refChanges_any (A : Option Addr) (c : Nat) (M : List EV) (s : Int) (T : List (List UInt8 × EP)) (C : Option Addr) (cc : Nat) (mine : List RV) (D : Option Addr) (d : Nat) (theirs : List RV) (w : World) (h : EsR w A M) (hT : M.map EV.pl = T) (hm : RwR w C mine) (ht : RwR w D theirs) (hl : mine.length ≤ 1000 ∧ theirs.length ≤ 1000) :
    Calls Tryz.prog 8 #[.agg #[.int .u64 s, .slice A M.length c], .slice C mine.length cc, .slice D theirs.length d] w fun e w' => ChOwn w' w.heap.size e (chgS T mine theirs) ∧ Below w.heap.size w w' := by
  have hw1 : Below w.heap.size w (w.alloc (.cells #[.int .u64 s, .slice A M.length c] 32)) := (by repeat (first | exact Below.refl _ _ | refine Below.alloc ?_ (by simp) _ | refine Below.setCell ?_ (by simp) _ | refine Below.drew ?_))
  have x1 := Blk.new w 32 #[.int .u64 s, .slice A M.length c]
  have HE := Lib.hid h
  have HM := Lib.hid hm
  have HT := Lib.hid ht
  have HTT := Lib.hid hT
  obtain ⟨hl1, hl2⟩ := hl
  obtain ⟨al, hal⟩ : ∃ al, al = mine ++ theirs := ⟨_, rfl⟩
  have hall : al.length ≤ 2000 := by rw [hal]; simp; omega
  obtain ⟨G, hG⟩ : ∃ G, G = chgS T mine theirs := ⟨_, rfl⟩
  rw [← hG]
  have HG : Hid (G = (pathsR al).map (chgV T mine theirs)) := Lib.hid (by rw [hG, hal]; rfl)
  have HAL := Lib.hid hal
  obtain ⟨i0, hi0, hz0, hz1, hz2⟩ := info_parts row_info
  clear h hm ht hT hG hal
  go_enter Tryz.func8, Tryz.ntmps8
  go_upto_region 2 with (fail)
  generalize w.alloc (.cells #[.int .u64 s, .slice A M.length c] 32) = w1 at *
  have HBK : Hid (∀ W, Below w1.heap.size w1 W → W.cell? ⟨w.heap.size, 0, none⟩ = some (.int .u64 s) ∧ W.cell? ⟨w.heap.size, 1, none⟩ = some (.slice A M.length c)) := Lib.hid (fun W hW => ⟨(x1.below hW).cell 0, (x1.below hW).cell 1⟩)
  have hO1 : Row (w1.alloc (.cells #[] 70)) w1.heap.size 70 5 (some ⟨w1.heap.size, 0, none⟩) 0 0 [] := Row.of_own (World.ownsRow_lit (base := w1.heap.size) (e := 70) (size := 5) w1 #[] 0 (Nat.le_refl _) (by simp [maxLen]) (by simp))
  have HO1 := Lib.hid hO1
  have hba : Below w1.heap.size w1 (w1.alloc (.cells #[] 70)) := (Below.refl _ _).alloc (Nat.le_refl _) _
  have HM1 := Lib.hid ((HM.out.below hw1).below hba)
  have hsb := hba.size
  clear x1 hO1
  go_wp2_with (at_builtin; first
    | (refine wpList_append_row _ rfl (.tmp 19) (.tmp 20) 44 rfl w1.heap.size 70 i0 _ 5 48 Tryz.underlying44 hi0 hz0 hz1 hz2 rfl (by omega) rfl HO1.out rfl HM1.out.rd (rv_one _) (by simp only [maxLen]; omega) (by omega) hsb ?_; intro A2 c2 w2 h21 h22 _; rw [Nat.zero_add, List.nil_append] at h21; rw [Nat.zero_add]; have hb2 : Below w1.heap.size w1 w2 := hba.trans (grown_below h22 hsb (fun g e => (HO1.out.lt g e).1)); have HR2 := Lib.hid h21; have HT2 := Lib.hid ((HT.out.below hw1).below hb2); have hsb2 := hb2.size; clear h21 h22)
    | (refine wpList_append_row _ rfl (.tmp 21) (.tmp 22) 44 rfl w1.heap.size 70 i0 _ 5 48 Tryz.underlying44 hi0 hz0 hz1 hz2 rfl (by omega) rfl HR2.out rfl HT2.out.rd (rv_one _) (by simp only [maxLen]; omega) (by omega) hsb2 ?_; intro A3 c3 w3 h31 h32 _; have hb3 : Below w1.heap.size w1 w3 := hb2.trans (grown_below h32 hsb2 (fun g e => (HR2.out.lt g e).1)); have hln : mine.length + theirs.length = al.length := (by rw [HAL.out, List.length_append]); rw [hln, ← List.flatMap_append, ← HAL.out] at h31; rw [hln]))
  have HAR : Hid (RwR w3 A3 al) := Lib.hid ⟨h31.rd.mono (fun _ _ _ => trivial), fun x hx => by
    rw [HAL.out] at hx
    rcases List.mem_append.1 hx with hx | hx
    · exact HM.out.ok x hx
    · exact HT.out.ok x hx, by omega⟩
  have hw3 := hw1.trans (hb3.mono hw1.size)
  have HB3 : Hid (∀ W, Below w3.heap.size w3 W → W.cell? ⟨w.heap.size, 0, none⟩ = some (.int .u64 s) ∧ W.cell? ⟨w.heap.size, 1, none⟩ = some (.slice A M.length c)) := Lib.hid (fun W hW => HBK.out W (hb3.trans (hW.mono hb3.size)))
  clear HR2 HT2 h31 h32 HO1 hb2 hsb2 hb3 HBK HM1 hba hsb
  go_loopw [7, 9] (fun fv iv wr => ∃ (i : Nat) (A' : Option Addr) (c' : Nat) (F : List (List UInt8)), i ≤ al.length ∧ iv = .int .i64 (i : Int) ∧ fv = .slice A' F.length c' ∧ Hid (sortedS F) ∧ Hid (∀ q, q ∈ F ↔ q ∈ (al.take i).map fun x => tl x.p) ∧ F.length ≤ i ∧ wr.ownsRow w3.heap.size 9 1 (.slice A' F.length c') F.length (F.map stv) ∧ Below w3.heap.size w3 wr) (fun _ iv _ => al.length - (intOf iv).toNat)
  case atStart => exact ⟨0, none, 0, [], Nat.zero_le _, rfl, rfl, List.Pairwise.nil, by show ∀ q, _; simp, Nat.le_refl _, World.ownsRow_nil _ _ _ _, Below.refl _ _⟩
  case round =>
    obtain ⟨i, A', c', F, hi, rfl, rfl, hFs, hFm, hFl, hown, hb⟩ := hrel
    by_cases hlt : i < al.length
    · obtain ⟨b, off, hA, hbb, c0, _, _, _, _⟩ := (HAR.out.below hb).at_ hlt
      have hxo := (HAR.out.ok _ (List.getElem_mem hlt)).1
      have hsn : (al.take (i + 1)).map (fun x => tl x.p) = (al.take i).map (fun x => tl x.p) ++ [tl al[i].p] := by
        rw [List.take_succ_eq_append_getElem hlt, List.map_append]
        rfl
      obtain ⟨x, hx⟩ : ∃ x, x = al[i] := ⟨_, rfl⟩
      rw [← hx] at c0 hxo hsn
      have HFM : Hid (∀ q, q ∈ insS (tl x.p) F ↔ q ∈ (al.take (i + 1)).map fun x => tl x.p) := Lib.hid (fun q => by
        rw [(ins_set hFs.out).2, hFm.out, hsn, List.mem_append, List.mem_singleton]
        exact or_comm)
      have HFS := Lib.hid (ins_set (p := tl x.p) hFs.out).1
      have HFL : Hid (∀ q ∈ F, q.length ≤ 1048576) := Lib.hid (fun q hq => by
        have h1 := (hFm.out q).1 hq
        obtain ⟨y, hy, rfl⟩ := List.mem_map.1 h1
        have h2 := (HAR.out.ok y (List.mem_of_mem_take hy)).1
        rw [tl_len]; exact h2)
      obtain ⟨A2, c2, he0, hF1, hF2, hF3, hF4, hF5⟩ := own_form hown
      obtain ⟨rfl, rfl⟩ : A' = A2 ∧ c' = c2 := by injection he0 with e1 _ e3; exact ⟨e1, e3⟩
      have HO2 := Lib.hid hown
      have hw2 := hb
      have hs2 := hb.size
      have HF4 := Lib.hid hF4
      have HF5 := Lib.hid hF5
      have HXC : Hid (∀ W, Below wr.heap.size wr W → W.cell? ⟨b, off + i * 5, none⟩ = some (.string x.p)) := Lib.hid (fun W hW => (hW.cell hbb).trans c0)
      rw [show maxLen = 9223372036854775807 from rfl] at hF2
      obtain ⟨wb, hwb⟩ : ∃ wb, wb = wr := ⟨_, rfl⟩
      rw [← hwb] at HO2 hw2 hs2 HXC
      subst hwb
      have hil : (i : Int) < (al.length : Int) := by omega
      subst hA
      clear hFm hFs hown he0 hF3 hF4 hF5 hb hsn hx c0
      go_wp2_with fail
      go_loopw [10] (fun kv wr => ∃ k : Nat, k ≤ F.length ∧ kv = .int .i64 (k : Int) ∧ Hid (∀ q ∈ F.take k, cmpT q (tl x.p) < 0) ∧ Below wb.heap.size wb wr) (fun kv _ => F.length - (intOf kv).toNat)
      case atStart => exact ⟨0, Nat.zero_le _, rfl, by show ∀ q ∈ F.take 0, _; simp, Below.refl _ _⟩
      case round =>
        rename World => w3r
        obtain ⟨k, hk, rfl, hkq, hb3⟩ := hrel
        have hud : undef = Value.tuple #[] := rfl
        by_cases hkl : k < F.length
        · obtain ⟨b2, off2, hA2, hbb2, f0⟩ := txt_atE rfl (own_below HO2.out hb3) hkl
          obtain rfl : off2 = 0 := by
            have := HF5.out _ hA2
            simpa using this
          rw [Nat.zero_add] at f0
          have hql := HFL.out _ (List.getElem_mem hkl)
          have htk := List.take_succ_eq_append_getElem hkl
          have hgk := List.getElem?_eq_getElem hkl
          obtain ⟨q, hq⟩ : ∃ q, q = F[k] := ⟨_, rfl⟩
          rw [← hq] at f0 hql htk hgk
          simp only [stv] at f0
          have HCM := Lib.hid (fun W => refCompare_any ⟨⟨q⟩⟩ x.p hql hxo W)
          rw [show tl ⟨⟨q⟩⟩ = q from rfl] at HCM
          obtain ⟨y, hy⟩ : ∃ y : ByteArray, y = ⟨⟨q⟩⟩ := ⟨_, rfl⟩
          rw [← hy] at f0 HCM
          have HY : Hid (tl y = q) := Lib.hid (by rw [hy])
          have HGK := Lib.hid hgk
          have HTK := Lib.hid htk
          obtain ⟨cm, hcm⟩ : ∃ cm, cm = cmpT q (tl x.p) := ⟨_, rfl⟩
          rw [← hcm] at HCM
          have HC := Lib.hid hcm
          have HQK := Lib.hid hq
          have hkd : decide ((k : Int) < (F.length : Int)) = true := decide_eq_true (by omega)
          have hki : (k : Int) < (F.length : Int) := by omega
          clear hgk htk hcm hq hy
          by_cases hc : cm < 0
          · have hcd : decide (cm < 0) = true := decide_eq_true hc
            have HN : Hid (∀ q ∈ F.take (k + 1), cmpT q (tl x.p) < 0) := Lib.hid (by
              rw [HTK.out]
              intro y hy
              rcases List.mem_append.1 hy with hy | hy
              · exact hkq.out y hy
              · rw [List.mem_singleton.1 hy, ← HC.out]; exact hc)
            subst hA2
            go_upto_region 7 with (fail)
            refine wp_region_b 17 (by kernel_rfl) (by kernel_rfl) ?_
            simp only [List.take_succ_cons, List.take_zero, List.drop_succ_cons, List.drop_zero]
            refine lb_move _ (by kernel_rfl) rfl ⟨_, (by ((try simp [go_sem]); (try rfl); done)), _, (by (simp only [Act.put, List.setIfInBounds_toArray, List.set_cons_zero, List.set_cons_succ]; rfl)), ?_⟩
            refine lb_move _ (by kernel_rfl) rfl ⟨_, (by ((try simp [go_sem]); (try rfl); done)), _, (by (simp only [Act.put, List.setIfInBounds_toArray, List.set_cons_zero, List.set_cons_succ]; rfl)), ?_⟩
            refine lb_val (by kernel_rfl) ⟨_, (by (intro w' hC; clear hC; (try go_simp); (try with_reducible rfl); done)), _, (by (simp only [Act.put, List.setIfInBounds_toArray, List.set_cons_zero, List.set_cons_succ]; rfl)), ?_⟩
            refine lb_val (by kernel_rfl) ⟨_, (by (intro w' hC; clear hC; (try go_simp); (try with_reducible rfl); done)), _, (by (simp only [Act.put, List.setIfInBounds_toArray, List.set_cons_zero, List.set_cons_succ]; rfl)), ?_⟩
            refine lb_move _ (by kernel_rfl) rfl ⟨_, (by ((try simp [go_sem]); (try rfl); done)), _, (by (simp only [Act.put, List.setIfInBounds_toArray, List.set_cons_zero, List.set_cons_succ]; rfl)), ?_⟩
            first | (refine lb_skip (by rfl) ⟨_, (by (simp only [Act.put, List.setIfInBounds_toArray, List.set_cons_zero, List.set_cons_succ]; rfl)), ?_⟩) | (refine lb_move _ (by kernel_rfl) rfl ⟨_, (by ((try simp [go_sem]); (try rfl); done)), _, (by (simp only [Act.put, List.setIfInBounds_toArray, List.set_cons_zero, List.set_cons_succ]; rfl)), ?_⟩)
            first | (refine lb_skip (by rfl) ⟨_, (by (simp only [Act.put, List.setIfInBounds_toArray, List.set_cons_zero, List.set_cons_succ]; rfl)), ?_⟩) | (refine lb_move _ (by kernel_rfl) rfl ⟨_, (by ((try simp [go_sem]); (try rfl); done)), _, (by (simp only [Act.put, List.setIfInBounds_toArray, List.set_cons_zero, List.set_cons_succ]; rfl)), ?_⟩)
            first | (refine lb_skip (by rfl) ⟨_, (by (simp only [Act.put, List.setIfInBounds_toArray, List.set_cons_zero, List.set_cons_succ]; rfl)), ?_⟩) | (refine lb_val (by kernel_rfl) ⟨_, (by (intro w' hC; clear hC; (try go_simp); (try with_reducible rfl); done)), _, (by (simp only [Act.put, List.setIfInBounds_toArray, List.set_cons_zero, List.set_cons_succ]; rfl)), ?_⟩)
            first | (refine lb_skip (by rfl) ⟨_, (by (simp only [Act.put, List.setIfInBounds_toArray, List.set_cons_zero, List.set_cons_succ]; rfl)), ?_⟩) | (refine lb_val (by kernel_rfl) ⟨_, (by (intro w' hC; (have f4 := (hC.cell hbb2).trans f0); clear hC; (try go_simp); (try with_reducible rfl); done)), _, (by (simp only [Act.put, List.setIfInBounds_toArray, List.set_cons_zero, List.set_cons_succ]; rfl)), ?_⟩)
            first | (refine lb_skip (by rfl) ⟨_, (by (simp only [Act.put, List.setIfInBounds_toArray, List.set_cons_zero, List.set_cons_succ]; rfl)), ?_⟩) | (refine lb_move _ (by kernel_rfl) rfl ⟨_, (by ((try simp [go_sem]); (try rfl); done)), _, (by (simp only [Act.put, List.setIfInBounds_toArray, List.set_cons_zero, List.set_cons_succ]; rfl)), ?_⟩)
            first | (refine lb_skip (by rfl) ⟨_, (by (simp only [Act.put, List.setIfInBounds_toArray, List.set_cons_zero, List.set_cons_succ]; rfl)), ?_⟩) | (refine lb_move _ (by kernel_rfl) rfl ⟨_, (by ((try simp [go_sem]); (try rfl); done)), _, (by (simp only [Act.put, List.setIfInBounds_toArray, List.set_cons_zero, List.set_cons_succ]; rfl)), ?_⟩)
            first | (refine lb_skip (by rfl) ⟨_, (by (simp only [Act.put, List.setIfInBounds_toArray, List.set_cons_zero, List.set_cons_succ]; rfl)), ?_⟩) | (refine lb_val (by kernel_rfl) ⟨_, (by (intro w' hC; clear hC; (try go_simp); (try with_reducible rfl); done)), _, (by (simp only [Act.put, List.setIfInBounds_toArray, List.set_cons_zero, List.set_cons_succ]; rfl)), ?_⟩)
            first | (refine lb_skip (by rfl) ⟨_, (by (simp only [Act.put, List.setIfInBounds_toArray, List.set_cons_zero, List.set_cons_succ]; rfl)), ?_⟩) | (refine lb_val (by kernel_rfl) ⟨_, (by (intro w' hC; clear hC; (try go_simp); (try with_reducible rfl); done)), _, (by (simp only [Act.put, List.setIfInBounds_toArray, List.set_cons_zero, List.set_cons_succ]; rfl)), ?_⟩)
            first | (refine lb_skip (by rfl) ⟨_, (by (simp only [Act.put, List.setIfInBounds_toArray, List.set_cons_zero, List.set_cons_succ]; rfl)), ?_⟩) | (refine lb_val (by kernel_rfl) ⟨_, (by (intro w' hC; (have cx := HXC.out w' (hb3.trans (hC.mono hb3.size))); clear hC; (try go_simp); (try with_reducible rfl); done)), _, (by (simp only [Act.put, List.setIfInBounds_toArray, List.set_cons_zero, List.set_cons_succ]; rfl)), ?_⟩)
            first | (refine lb_skip (by rfl) ⟨_, (by (simp only [Act.put, List.setIfInBounds_toArray, List.set_cons_zero, List.set_cons_succ]; rfl)), ?_⟩) | (refine lb_call (by kernel_rfl) (fun w' hC => HCM.out w') (by (intro w'; go_simp; done)) ⟨_, (by (simp only [Act.put, List.setIfInBounds_toArray, List.set_cons_zero, List.set_cons_succ]; rfl)), ?_⟩)
            first | (refine lb_skip (by rfl) ⟨_, (by (simp only [Act.put, List.setIfInBounds_toArray, List.set_cons_zero, List.set_cons_succ]; rfl)), ?_⟩) | (refine lb_val (by kernel_rfl) ⟨_, (by (intro w' hC; clear hC; (try go_simp); (try with_reducible rfl); done)), _, (by (simp only [Act.put, List.setIfInBounds_toArray, List.set_cons_zero, List.set_cons_succ]; rfl)), ?_⟩)
            refine lb_val (by kernel_rfl) ⟨_, (by (intro w' hC; clear hC; (try go_simp); (try with_reducible rfl); done)), _, (by (simp only [Act.put, List.setIfInBounds_toArray, List.set_cons_zero, List.set_cons_succ]; rfl)), ?_⟩
            refine .nil ?_
            intro w4 hb4
            have hwx := hb3.trans (hb4.mono hb3.size)
            have hw4 := hw2.trans (hwx.mono hw2.size)
            go_wp2_with fail
            go_roundw
            case rel => exact ⟨k + 1, hkl, by go_num, HN.out, hwx⟩
            case measure => simp [intOf]; omega
          · have hcd : decide (cm < 0) = false := decide_eq_false hc
            have HAT : Hid (atS (tl x.p) F = k) := Lib.hid (atS_of hk hkq.out (fun h => by rw [← HQK.out, ← HC.out]; exact hc))
            by_cases he : y = x.p
            · have heq := eq_yes he
              have HSF : Hid (insS (tl x.p) F = F) := Lib.hid (by
                unfold insS
                rw [HAT.out, HGK.out, if_pos (by rw [← he, HY.out])])
              rw [HSF.out] at HFS HFM
              subst hA2
              clear he
              go_upto_region 7 with (fail)
              refine wp_region_b 17 (by kernel_rfl) (by kernel_rfl) ?_
              simp only [List.take_succ_cons, List.take_zero, List.drop_succ_cons, List.drop_zero]
              refine lb_move _ (by kernel_rfl) rfl ⟨_, (by ((try simp [go_sem]); (try rfl); done)), _, (by (simp only [Act.put, List.setIfInBounds_toArray, List.set_cons_zero, List.set_cons_succ]; rfl)), ?_⟩
              refine lb_move _ (by kernel_rfl) rfl ⟨_, (by ((try simp [go_sem]); (try rfl); done)), _, (by (simp only [Act.put, List.setIfInBounds_toArray, List.set_cons_zero, List.set_cons_succ]; rfl)), ?_⟩
              refine lb_val (by kernel_rfl) ⟨_, (by (intro w' hC; clear hC; (try go_simp); (try with_reducible rfl); done)), _, (by (simp only [Act.put, List.setIfInBounds_toArray, List.set_cons_zero, List.set_cons_succ]; rfl)), ?_⟩
              refine lb_val (by kernel_rfl) ⟨_, (by (intro w' hC; clear hC; (try go_simp); (try with_reducible rfl); done)), _, (by (simp only [Act.put, List.setIfInBounds_toArray, List.set_cons_zero, List.set_cons_succ]; rfl)), ?_⟩
              refine lb_move _ (by kernel_rfl) rfl ⟨_, (by ((try simp [go_sem]); (try rfl); done)), _, (by (simp only [Act.put, List.setIfInBounds_toArray, List.set_cons_zero, List.set_cons_succ]; rfl)), ?_⟩
              first | (refine lb_skip (by rfl) ⟨_, (by (simp only [Act.put, List.setIfInBounds_toArray, List.set_cons_zero, List.set_cons_succ]; rfl)), ?_⟩) | (refine lb_move _ (by kernel_rfl) rfl ⟨_, (by ((try simp [go_sem]); (try rfl); done)), _, (by (simp only [Act.put, List.setIfInBounds_toArray, List.set_cons_zero, List.set_cons_succ]; rfl)), ?_⟩)
              first | (refine lb_skip (by rfl) ⟨_, (by (simp only [Act.put, List.setIfInBounds_toArray, List.set_cons_zero, List.set_cons_succ]; rfl)), ?_⟩) | (refine lb_move _ (by kernel_rfl) rfl ⟨_, (by ((try simp [go_sem]); (try rfl); done)), _, (by (simp only [Act.put, List.setIfInBounds_toArray, List.set_cons_zero, List.set_cons_succ]; rfl)), ?_⟩)
              first | (refine lb_skip (by rfl) ⟨_, (by (simp only [Act.put, List.setIfInBounds_toArray, List.set_cons_zero, List.set_cons_succ]; rfl)), ?_⟩) | (refine lb_val (by kernel_rfl) ⟨_, (by (intro w' hC; clear hC; (try go_simp); (try with_reducible rfl); done)), _, (by (simp only [Act.put, List.setIfInBounds_toArray, List.set_cons_zero, List.set_cons_succ]; rfl)), ?_⟩)
              first | (refine lb_skip (by rfl) ⟨_, (by (simp only [Act.put, List.setIfInBounds_toArray, List.set_cons_zero, List.set_cons_succ]; rfl)), ?_⟩) | (refine lb_val (by kernel_rfl) ⟨_, (by (intro w' hC; (have f4 := (hC.cell hbb2).trans f0); clear hC; (try go_simp); (try with_reducible rfl); done)), _, (by (simp only [Act.put, List.setIfInBounds_toArray, List.set_cons_zero, List.set_cons_succ]; rfl)), ?_⟩)
              first | (refine lb_skip (by rfl) ⟨_, (by (simp only [Act.put, List.setIfInBounds_toArray, List.set_cons_zero, List.set_cons_succ]; rfl)), ?_⟩) | (refine lb_move _ (by kernel_rfl) rfl ⟨_, (by ((try simp [go_sem]); (try rfl); done)), _, (by (simp only [Act.put, List.setIfInBounds_toArray, List.set_cons_zero, List.set_cons_succ]; rfl)), ?_⟩)
              first | (refine lb_skip (by rfl) ⟨_, (by (simp only [Act.put, List.setIfInBounds_toArray, List.set_cons_zero, List.set_cons_succ]; rfl)), ?_⟩) | (refine lb_move _ (by kernel_rfl) rfl ⟨_, (by ((try simp [go_sem]); (try rfl); done)), _, (by (simp only [Act.put, List.setIfInBounds_toArray, List.set_cons_zero, List.set_cons_succ]; rfl)), ?_⟩)
              first | (refine lb_skip (by rfl) ⟨_, (by (simp only [Act.put, List.setIfInBounds_toArray, List.set_cons_zero, List.set_cons_succ]; rfl)), ?_⟩) | (refine lb_val (by kernel_rfl) ⟨_, (by (intro w' hC; clear hC; (try go_simp); (try with_reducible rfl); done)), _, (by (simp only [Act.put, List.setIfInBounds_toArray, List.set_cons_zero, List.set_cons_succ]; rfl)), ?_⟩)
              first | (refine lb_skip (by rfl) ⟨_, (by (simp only [Act.put, List.setIfInBounds_toArray, List.set_cons_zero, List.set_cons_succ]; rfl)), ?_⟩) | (refine lb_val (by kernel_rfl) ⟨_, (by (intro w' hC; clear hC; (try go_simp); (try with_reducible rfl); done)), _, (by (simp only [Act.put, List.setIfInBounds_toArray, List.set_cons_zero, List.set_cons_succ]; rfl)), ?_⟩)
              first | (refine lb_skip (by rfl) ⟨_, (by (simp only [Act.put, List.setIfInBounds_toArray, List.set_cons_zero, List.set_cons_succ]; rfl)), ?_⟩) | (refine lb_val (by kernel_rfl) ⟨_, (by (intro w' hC; (have cx := HXC.out w' (hb3.trans (hC.mono hb3.size))); clear hC; (try go_simp); (try with_reducible rfl); done)), _, (by (simp only [Act.put, List.setIfInBounds_toArray, List.set_cons_zero, List.set_cons_succ]; rfl)), ?_⟩)
              first | (refine lb_skip (by rfl) ⟨_, (by (simp only [Act.put, List.setIfInBounds_toArray, List.set_cons_zero, List.set_cons_succ]; rfl)), ?_⟩) | (refine lb_call (by kernel_rfl) (fun w' hC => HCM.out w') (by (intro w'; go_simp; done)) ⟨_, (by (simp only [Act.put, List.setIfInBounds_toArray, List.set_cons_zero, List.set_cons_succ]; rfl)), ?_⟩)
              first | (refine lb_skip (by rfl) ⟨_, (by (simp only [Act.put, List.setIfInBounds_toArray, List.set_cons_zero, List.set_cons_succ]; rfl)), ?_⟩) | (refine lb_val (by kernel_rfl) ⟨_, (by (intro w' hC; clear hC; (try go_simp); (try with_reducible rfl); done)), _, (by (simp only [Act.put, List.setIfInBounds_toArray, List.set_cons_zero, List.set_cons_succ]; rfl)), ?_⟩)
              refine lb_val (by kernel_rfl) ⟨_, (by (intro w' hC; clear hC; (try go_simp); (try with_reducible rfl); done)), _, (by (simp only [Act.put, List.setIfInBounds_toArray, List.set_cons_zero, List.set_cons_succ]; rfl)), ?_⟩
              refine .nil ?_
              intro w4 hb4
              have hwx := hb3.trans (hb4.mono hb3.size)
              have hw4 := hw2.trans (hwx.mono hw2.size)
              have f4 := (hb4.cell hbb2).trans f0
              have hbb4 : b2 < w4.heap.size := Nat.lt_of_lt_of_le hbb2 hb4.size
              go_upto_region 9 with (fail)
              refine wp_region_b 16 (by kernel_rfl) (by kernel_rfl) ?_
              simp only [List.take_succ_cons, List.take_zero, List.drop_succ_cons, List.drop_zero]
              refine lb_move _ (by kernel_rfl) rfl ⟨_, (by ((try simp [go_sem]); (try rfl); done)), _, (by (simp only [Act.put, List.setIfInBounds_toArray, List.set_cons_zero, List.set_cons_succ]; rfl)), ?_⟩
              refine lb_move _ (by kernel_rfl) rfl ⟨_, (by ((try simp [go_sem]); (try rfl); done)), _, (by (simp only [Act.put, List.setIfInBounds_toArray, List.set_cons_zero, List.set_cons_succ]; rfl)), ?_⟩
              refine lb_val (by kernel_rfl) ⟨_, (by (intro w' hC; clear hC; (try go_simp); (try with_reducible rfl); done)), _, (by (simp only [Act.put, List.setIfInBounds_toArray, List.set_cons_zero, List.set_cons_succ]; rfl)), ?_⟩
              refine lb_val (by kernel_rfl) ⟨_, (by (intro w' hC; clear hC; (try go_simp); (try with_reducible rfl); done)), _, (by (simp only [Act.put, List.setIfInBounds_toArray, List.set_cons_zero, List.set_cons_succ]; rfl)), ?_⟩
              refine lb_move _ (by kernel_rfl) rfl ⟨_, (by ((try simp [go_sem]); (try rfl); done)), _, (by (simp only [Act.put, List.setIfInBounds_toArray, List.set_cons_zero, List.set_cons_succ]; rfl)), ?_⟩
              first | (refine lb_skip (by rfl) ⟨_, (by (simp only [Act.put, List.setIfInBounds_toArray, List.set_cons_zero, List.set_cons_succ]; rfl)), ?_⟩) | (refine lb_move _ (by kernel_rfl) rfl ⟨_, (by ((try simp [go_sem]); (try rfl); done)), _, (by (simp only [Act.put, List.setIfInBounds_toArray, List.set_cons_zero, List.set_cons_succ]; rfl)), ?_⟩)
              first | (refine lb_skip (by rfl) ⟨_, (by (simp only [Act.put, List.setIfInBounds_toArray, List.set_cons_zero, List.set_cons_succ]; rfl)), ?_⟩) | (refine lb_move _ (by kernel_rfl) rfl ⟨_, (by ((try simp [go_sem]); (try rfl); done)), _, (by (simp only [Act.put, List.setIfInBounds_toArray, List.set_cons_zero, List.set_cons_succ]; rfl)), ?_⟩)
              first | (refine lb_skip (by rfl) ⟨_, (by (simp only [Act.put, List.setIfInBounds_toArray, List.set_cons_zero, List.set_cons_succ]; rfl)), ?_⟩) | (refine lb_val (by kernel_rfl) ⟨_, (by (intro w' hC; clear hC; (try go_simp); (try with_reducible rfl); done)), _, (by (simp only [Act.put, List.setIfInBounds_toArray, List.set_cons_zero, List.set_cons_succ]; rfl)), ?_⟩)
              first | (refine lb_skip (by rfl) ⟨_, (by (simp only [Act.put, List.setIfInBounds_toArray, List.set_cons_zero, List.set_cons_succ]; rfl)), ?_⟩) | (refine lb_val (by kernel_rfl) ⟨_, (by (intro w' hC; (have f5 := (hC.cell hbb4).trans f4); clear hC; (try go_simp); (try with_reducible rfl); done)), _, (by (simp only [Act.put, List.setIfInBounds_toArray, List.set_cons_zero, List.set_cons_succ]; rfl)), ?_⟩)
              first | (refine lb_skip (by rfl) ⟨_, (by (simp only [Act.put, List.setIfInBounds_toArray, List.set_cons_zero, List.set_cons_succ]; rfl)), ?_⟩) | (refine lb_move _ (by kernel_rfl) rfl ⟨_, (by ((try simp [go_sem]); (try rfl); done)), _, (by (simp only [Act.put, List.setIfInBounds_toArray, List.set_cons_zero, List.set_cons_succ]; rfl)), ?_⟩)
              first | (refine lb_skip (by rfl) ⟨_, (by (simp only [Act.put, List.setIfInBounds_toArray, List.set_cons_zero, List.set_cons_succ]; rfl)), ?_⟩) | (refine lb_move _ (by kernel_rfl) rfl ⟨_, (by ((try simp [go_sem]); (try rfl); done)), _, (by (simp only [Act.put, List.setIfInBounds_toArray, List.set_cons_zero, List.set_cons_succ]; rfl)), ?_⟩)
              first | (refine lb_skip (by rfl) ⟨_, (by (simp only [Act.put, List.setIfInBounds_toArray, List.set_cons_zero, List.set_cons_succ]; rfl)), ?_⟩) | (refine lb_val (by kernel_rfl) ⟨_, (by (intro w' hC; clear hC; (try go_simp); (try with_reducible rfl); done)), _, (by (simp only [Act.put, List.setIfInBounds_toArray, List.set_cons_zero, List.set_cons_succ]; rfl)), ?_⟩)
              first | (refine lb_skip (by rfl) ⟨_, (by (simp only [Act.put, List.setIfInBounds_toArray, List.set_cons_zero, List.set_cons_succ]; rfl)), ?_⟩) | (refine lb_val (by kernel_rfl) ⟨_, (by (intro w' hC; clear hC; (try go_simp); (try with_reducible rfl); done)), _, (by (simp only [Act.put, List.setIfInBounds_toArray, List.set_cons_zero, List.set_cons_succ]; rfl)), ?_⟩)
              first | (refine lb_skip (by rfl) ⟨_, (by (simp only [Act.put, List.setIfInBounds_toArray, List.set_cons_zero, List.set_cons_succ]; rfl)), ?_⟩) | (refine lb_val (by kernel_rfl) ⟨_, (by (intro w' hC; (have cx := HXC.out w' (hwx.trans (hC.mono hwx.size))); clear hC; (try go_simp); (try with_reducible rfl); done)), _, (by (simp only [Act.put, List.setIfInBounds_toArray, List.set_cons_zero, List.set_cons_succ]; rfl)), ?_⟩)
              first | (refine lb_skip (by rfl) ⟨_, (by (simp only [Act.put, List.setIfInBounds_toArray, List.set_cons_zero, List.set_cons_succ]; rfl)), ?_⟩) | (refine lb_val (by kernel_rfl) ⟨_, (by (intro w' hC; clear hC; (try go_simp); (try with_reducible rfl); done)), _, (by (simp only [Act.put, List.setIfInBounds_toArray, List.set_cons_zero, List.set_cons_succ]; rfl)), ?_⟩)
              refine lb_val (by kernel_rfl) ⟨_, (by (intro w' hC; clear hC; (try go_simp); (try with_reducible rfl); done)), _, (by (simp only [Act.put, List.setIfInBounds_toArray, List.set_cons_zero, List.set_cons_succ]; rfl)), ?_⟩
              refine .nil ?_
              intro w5 hb5
              have hw5 := hw4.trans (hb5.mono hw4.size)
              have ho5 := own_below (own_below HO2.out hwx) hb5
              go_wp2_with fail
              go_roundw
              case rel => exact ⟨i + 1, _, c', F, hlt, by go_num, rfl, HFS.out, HFM.out, by omega, ho5, hw5⟩
              case measure => simp [intOf]; omega
            · have heq := eq_no he
              have HI : Hid (F.take k ++ tl x.p :: F.drop k = insS (tl x.p) F) := Lib.hid (by
                unfold insS
                rw [HAT.out, HGK.out, if_neg (fun e => he (by injection e with e; apply tl_inj; rw [HY.out]; exact e))])
              have HIL : Hid ((insS (tl x.p) F).length ≤ i + 1) := Lib.hid (by
                rw [← HI.out]; simp; omega)
              subst hA2
              clear he
              go_upto_region 7 with (fail)
              refine wp_region_b 17 (by kernel_rfl) (by kernel_rfl) ?_
              simp only [List.take_succ_cons, List.take_zero, List.drop_succ_cons, List.drop_zero]
              refine lb_move _ (by kernel_rfl) rfl ⟨_, (by ((try simp [go_sem]); (try rfl); done)), _, (by (simp only [Act.put, List.setIfInBounds_toArray, List.set_cons_zero, List.set_cons_succ]; rfl)), ?_⟩
              refine lb_move _ (by kernel_rfl) rfl ⟨_, (by ((try simp [go_sem]); (try rfl); done)), _, (by (simp only [Act.put, List.setIfInBounds_toArray, List.set_cons_zero, List.set_cons_succ]; rfl)), ?_⟩
              refine lb_val (by kernel_rfl) ⟨_, (by (intro w' hC; clear hC; (try go_simp); (try with_reducible rfl); done)), _, (by (simp only [Act.put, List.setIfInBounds_toArray, List.set_cons_zero, List.set_cons_succ]; rfl)), ?_⟩
              refine lb_val (by kernel_rfl) ⟨_, (by (intro w' hC; clear hC; (try go_simp); (try with_reducible rfl); done)), _, (by (simp only [Act.put, List.setIfInBounds_toArray, List.set_cons_zero, List.set_cons_succ]; rfl)), ?_⟩
              refine lb_move _ (by kernel_rfl) rfl ⟨_, (by ((try simp [go_sem]); (try rfl); done)), _, (by (simp only [Act.put, List.setIfInBounds_toArray, List.set_cons_zero, List.set_cons_succ]; rfl)), ?_⟩
              first | (refine lb_skip (by rfl) ⟨_, (by (simp only [Act.put, List.setIfInBounds_toArray, List.set_cons_zero, List.set_cons_succ]; rfl)), ?_⟩) | (refine lb_move _ (by kernel_rfl) rfl ⟨_, (by ((try simp [go_sem]); (try rfl); done)), _, (by (simp only [Act.put, List.setIfInBounds_toArray, List.set_cons_zero, List.set_cons_succ]; rfl)), ?_⟩)
              first | (refine lb_skip (by rfl) ⟨_, (by (simp only [Act.put, List.setIfInBounds_toArray, List.set_cons_zero, List.set_cons_succ]; rfl)), ?_⟩) | (refine lb_move _ (by kernel_rfl) rfl ⟨_, (by ((try simp [go_sem]); (try rfl); done)), _, (by (simp only [Act.put, List.setIfInBounds_toArray, List.set_cons_zero, List.set_cons_succ]; rfl)), ?_⟩)
              first | (refine lb_skip (by rfl) ⟨_, (by (simp only [Act.put, List.setIfInBounds_toArray, List.set_cons_zero, List.set_cons_succ]; rfl)), ?_⟩) | (refine lb_val (by kernel_rfl) ⟨_, (by (intro w' hC; clear hC; (try go_simp); (try with_reducible rfl); done)), _, (by (simp only [Act.put, List.setIfInBounds_toArray, List.set_cons_zero, List.set_cons_succ]; rfl)), ?_⟩)
              first | (refine lb_skip (by rfl) ⟨_, (by (simp only [Act.put, List.setIfInBounds_toArray, List.set_cons_zero, List.set_cons_succ]; rfl)), ?_⟩) | (refine lb_val (by kernel_rfl) ⟨_, (by (intro w' hC; (have f4 := (hC.cell hbb2).trans f0); clear hC; (try go_simp); (try with_reducible rfl); done)), _, (by (simp only [Act.put, List.setIfInBounds_toArray, List.set_cons_zero, List.set_cons_succ]; rfl)), ?_⟩)
              first | (refine lb_skip (by rfl) ⟨_, (by (simp only [Act.put, List.setIfInBounds_toArray, List.set_cons_zero, List.set_cons_succ]; rfl)), ?_⟩) | (refine lb_move _ (by kernel_rfl) rfl ⟨_, (by ((try simp [go_sem]); (try rfl); done)), _, (by (simp only [Act.put, List.setIfInBounds_toArray, List.set_cons_zero, List.set_cons_succ]; rfl)), ?_⟩)
              first | (refine lb_skip (by rfl) ⟨_, (by (simp only [Act.put, List.setIfInBounds_toArray, List.set_cons_zero, List.set_cons_succ]; rfl)), ?_⟩) | (refine lb_move _ (by kernel_rfl) rfl ⟨_, (by ((try simp [go_sem]); (try rfl); done)), _, (by (simp only [Act.put, List.setIfInBounds_toArray, List.set_cons_zero, List.set_cons_succ]; rfl)), ?_⟩)
              first | (refine lb_skip (by rfl) ⟨_, (by (simp only [Act.put, List.setIfInBounds_toArray, List.set_cons_zero, List.set_cons_succ]; rfl)), ?_⟩) | (refine lb_val (by kernel_rfl) ⟨_, (by (intro w' hC; clear hC; (try go_simp); (try with_reducible rfl); done)), _, (by (simp only [Act.put, List.setIfInBounds_toArray, List.set_cons_zero, List.set_cons_succ]; rfl)), ?_⟩)
              first | (refine lb_skip (by rfl) ⟨_, (by (simp only [Act.put, List.setIfInBounds_toArray, List.set_cons_zero, List.set_cons_succ]; rfl)), ?_⟩) | (refine lb_val (by kernel_rfl) ⟨_, (by (intro w' hC; clear hC; (try go_simp); (try with_reducible rfl); done)), _, (by (simp only [Act.put, List.setIfInBounds_toArray, List.set_cons_zero, List.set_cons_succ]; rfl)), ?_⟩)
              first | (refine lb_skip (by rfl) ⟨_, (by (simp only [Act.put, List.setIfInBounds_toArray, List.set_cons_zero, List.set_cons_succ]; rfl)), ?_⟩) | (refine lb_val (by kernel_rfl) ⟨_, (by (intro w' hC; (have cx := HXC.out w' (hb3.trans (hC.mono hb3.size))); clear hC; (try go_simp); (try with_reducible rfl); done)), _, (by (simp only [Act.put, List.setIfInBounds_toArray, List.set_cons_zero, List.set_cons_succ]; rfl)), ?_⟩)
              first | (refine lb_skip (by rfl) ⟨_, (by (simp only [Act.put, List.setIfInBounds_toArray, List.set_cons_zero, List.set_cons_succ]; rfl)), ?_⟩) | (refine lb_call (by kernel_rfl) (fun w' hC => HCM.out w') (by (intro w'; go_simp; done)) ⟨_, (by (simp only [Act.put, List.setIfInBounds_toArray, List.set_cons_zero, List.set_cons_succ]; rfl)), ?_⟩)
              first | (refine lb_skip (by rfl) ⟨_, (by (simp only [Act.put, List.setIfInBounds_toArray, List.set_cons_zero, List.set_cons_succ]; rfl)), ?_⟩) | (refine lb_val (by kernel_rfl) ⟨_, (by (intro w' hC; clear hC; (try go_simp); (try with_reducible rfl); done)), _, (by (simp only [Act.put, List.setIfInBounds_toArray, List.set_cons_zero, List.set_cons_succ]; rfl)), ?_⟩)
              refine lb_val (by kernel_rfl) ⟨_, (by (intro w' hC; clear hC; (try go_simp); (try with_reducible rfl); done)), _, (by (simp only [Act.put, List.setIfInBounds_toArray, List.set_cons_zero, List.set_cons_succ]; rfl)), ?_⟩
              refine .nil ?_
              intro w5 hb5
              have hwx := hb3.trans (hb5.mono hb3.size)
              have f4 := (hb5.cell hbb2).trans f0
              have hbb4 : b2 < w5.heap.size := Nat.lt_of_lt_of_le hbb2 hb5.size
              go_upto_region 9 with (fail)
              refine wp_region_b 16 (by kernel_rfl) (by kernel_rfl) ?_
              simp only [List.take_succ_cons, List.take_zero, List.drop_succ_cons, List.drop_zero]
              refine lb_move _ (by kernel_rfl) rfl ⟨_, (by ((try simp [go_sem]); (try rfl); done)), _, (by (simp only [Act.put, List.setIfInBounds_toArray, List.set_cons_zero, List.set_cons_succ]; rfl)), ?_⟩
              refine lb_move _ (by kernel_rfl) rfl ⟨_, (by ((try simp [go_sem]); (try rfl); done)), _, (by (simp only [Act.put, List.setIfInBounds_toArray, List.set_cons_zero, List.set_cons_succ]; rfl)), ?_⟩
              refine lb_val (by kernel_rfl) ⟨_, (by (intro w' hC; clear hC; (try go_simp); (try with_reducible rfl); done)), _, (by (simp only [Act.put, List.setIfInBounds_toArray, List.set_cons_zero, List.set_cons_succ]; rfl)), ?_⟩
              refine lb_val (by kernel_rfl) ⟨_, (by (intro w' hC; clear hC; (try go_simp); (try with_reducible rfl); done)), _, (by (simp only [Act.put, List.setIfInBounds_toArray, List.set_cons_zero, List.set_cons_succ]; rfl)), ?_⟩
              refine lb_move _ (by kernel_rfl) rfl ⟨_, (by ((try simp [go_sem]); (try rfl); done)), _, (by (simp only [Act.put, List.setIfInBounds_toArray, List.set_cons_zero, List.set_cons_succ]; rfl)), ?_⟩
              first | (refine lb_skip (by rfl) ⟨_, (by (simp only [Act.put, List.setIfInBounds_toArray, List.set_cons_zero, List.set_cons_succ]; rfl)), ?_⟩) | (refine lb_move _ (by kernel_rfl) rfl ⟨_, (by ((try simp [go_sem]); (try rfl); done)), _, (by (simp only [Act.put, List.setIfInBounds_toArray, List.set_cons_zero, List.set_cons_succ]; rfl)), ?_⟩)
              first | (refine lb_skip (by rfl) ⟨_, (by (simp only [Act.put, List.setIfInBounds_toArray, List.set_cons_zero, List.set_cons_succ]; rfl)), ?_⟩) | (refine lb_move _ (by kernel_rfl) rfl ⟨_, (by ((try simp [go_sem]); (try rfl); done)), _, (by (simp only [Act.put, List.setIfInBounds_toArray, List.set_cons_zero, List.set_cons_succ]; rfl)), ?_⟩)
              first | (refine lb_skip (by rfl) ⟨_, (by (simp only [Act.put, List.setIfInBounds_toArray, List.set_cons_zero, List.set_cons_succ]; rfl)), ?_⟩) | (refine lb_val (by kernel_rfl) ⟨_, (by (intro w' hC; clear hC; (try go_simp); (try with_reducible rfl); done)), _, (by (simp only [Act.put, List.setIfInBounds_toArray, List.set_cons_zero, List.set_cons_succ]; rfl)), ?_⟩)
              first | (refine lb_skip (by rfl) ⟨_, (by (simp only [Act.put, List.setIfInBounds_toArray, List.set_cons_zero, List.set_cons_succ]; rfl)), ?_⟩) | (refine lb_val (by kernel_rfl) ⟨_, (by (intro w' hC; (have f5 := (hC.cell hbb4).trans f4); clear hC; (try go_simp); (try with_reducible rfl); done)), _, (by (simp only [Act.put, List.setIfInBounds_toArray, List.set_cons_zero, List.set_cons_succ]; rfl)), ?_⟩)
              first | (refine lb_skip (by rfl) ⟨_, (by (simp only [Act.put, List.setIfInBounds_toArray, List.set_cons_zero, List.set_cons_succ]; rfl)), ?_⟩) | (refine lb_move _ (by kernel_rfl) rfl ⟨_, (by ((try simp [go_sem]); (try rfl); done)), _, (by (simp only [Act.put, List.setIfInBounds_toArray, List.set_cons_zero, List.set_cons_succ]; rfl)), ?_⟩)
              first | (refine lb_skip (by rfl) ⟨_, (by (simp only [Act.put, List.setIfInBounds_toArray, List.set_cons_zero, List.set_cons_succ]; rfl)), ?_⟩) | (refine lb_move _ (by kernel_rfl) rfl ⟨_, (by ((try simp [go_sem]); (try rfl); done)), _, (by (simp only [Act.put, List.setIfInBounds_toArray, List.set_cons_zero, List.set_cons_succ]; rfl)), ?_⟩)
              first | (refine lb_skip (by rfl) ⟨_, (by (simp only [Act.put, List.setIfInBounds_toArray, List.set_cons_zero, List.set_cons_succ]; rfl)), ?_⟩) | (refine lb_val (by kernel_rfl) ⟨_, (by (intro w' hC; clear hC; (try go_simp); (try with_reducible rfl); done)), _, (by (simp only [Act.put, List.setIfInBounds_toArray, List.set_cons_zero, List.set_cons_succ]; rfl)), ?_⟩)
              first | (refine lb_skip (by rfl) ⟨_, (by (simp only [Act.put, List.setIfInBounds_toArray, List.set_cons_zero, List.set_cons_succ]; rfl)), ?_⟩) | (refine lb_val (by kernel_rfl) ⟨_, (by (intro w' hC; clear hC; (try go_simp); (try with_reducible rfl); done)), _, (by (simp only [Act.put, List.setIfInBounds_toArray, List.set_cons_zero, List.set_cons_succ]; rfl)), ?_⟩)
              first | (refine lb_skip (by rfl) ⟨_, (by (simp only [Act.put, List.setIfInBounds_toArray, List.set_cons_zero, List.set_cons_succ]; rfl)), ?_⟩) | (refine lb_val (by kernel_rfl) ⟨_, (by (intro w' hC; (have cx := HXC.out w' (hwx.trans (hC.mono hwx.size))); clear hC; (try go_simp); (try with_reducible rfl); done)), _, (by (simp only [Act.put, List.setIfInBounds_toArray, List.set_cons_zero, List.set_cons_succ]; rfl)), ?_⟩)
              first | (refine lb_skip (by rfl) ⟨_, (by (simp only [Act.put, List.setIfInBounds_toArray, List.set_cons_zero, List.set_cons_succ]; rfl)), ?_⟩) | (refine lb_val (by kernel_rfl) ⟨_, (by (intro w' hC; clear hC; (try go_simp); (try with_reducible rfl); done)), _, (by (simp only [Act.put, List.setIfInBounds_toArray, List.set_cons_zero, List.set_cons_succ]; rfl)), ?_⟩)
              refine lb_val (by kernel_rfl) ⟨_, (by (intro w' hC; clear hC; (try go_simp); (try with_reducible rfl); done)), _, (by (simp only [Act.put, List.setIfInBounds_toArray, List.set_cons_zero, List.set_cons_succ]; rfl)), ?_⟩
              refine .nil ?_
              intro w4 hb4
              replace hwx := hwx.trans (hb4.mono hwx.size)
              have hw4 := hw2.trans (hwx.mono hw2.size)
              have HO4 := Lib.hid (own_below HO2.out hwx)
              have cx := HXC.out w4 hwx
              have cx5 := HXC.out (w4.alloc (.cells #[] 9)) (hwx.alloc hwx.size _)
              clear f0 f4 HCM HTK HGK HC HQK hud hb4 hb5
              have b3 : ¬ c' - k = 0 := by omega
              have b4 : ¬ c' = 0 := by omega
              have hck : ¬ c' = k := by omega
              have hO5 := Lib.hid (World.ownsRow_lit (base := w4.heap.size) (e := 9) (size := 1) w4 #[] 0 (Nat.le_refl _) (by simp [maxLen]) (by simp))
              have hz5 : w4.heap.size ≤ (w4.alloc (.cells #[] 9)).heap.size := by simp
              have hR5 : Hid (Rd (w4.alloc (.cells #[] 9)) (fun _ => True) 1 (some ⟨b2, 0, none⟩) k ((F.take k).map stv)) := Lib.hid (by
                have := ((own_rd HO4.out).mono (fun _ _ _ => trivial)).take hk
                rw [Nat.mul_one, ← List.map_take] at this
                exact this.alloc _)
              obtain ⟨M1, hM1⟩ : ∃ M1, M1 = [] ++ F.take k := ⟨_, rfl⟩
              have hM1l : M1.length ≤ 1000000 := by rw [hM1]; simp <;> omega
              obtain ⟨M2, hM2⟩ : ∃ M2, M2 = M1 ++ [tl x.p] := ⟨_, rfl⟩
              have hM2l : M2.length ≤ 1000001 := by rw [hM2]; simp <;> omega
              obtain ⟨M3, hM3⟩ : ∃ M3, M3 = M2 ++ F.drop k := ⟨_, rfl⟩
              have HM3 := Lib.hid hM3
              have HI3 : Hid (M3 = insS (tl x.p) F) := Lib.hid (by rw [hM3, hM2, hM1, ← HI.out]; simp)
              have HM1 := Lib.hid hM1
              have HM2 := Lib.hid hM2
              have HDR := Lib.hid (fun w8 (hb8 : Below w4.heap.size w4 w8) => ((own_rd (own_below HO4.out hb8)).mono (Z' := fun _ => True) (fun _ _ _ => trivial)).drop (k := k) (cap := c') hk hF1)
              rw [Nat.mul_one, ← List.map_drop] at HDR
              rw [if_neg hck, Option.map_some, add_none, Nat.zero_add] at HDR
              clear hM1 hM2 hM3 HI
              go_wp2_with (at_builtin; first
                | (refine wpList_append_sts rfl (.tmp 65) (.tmp 68) (t := 67) rfl rfl (L := []) (M := F.take k) (by first | rfl | (simp; done)) (by first | rfl | (simp; done)) hO5.out (by first | rfl | (simp; done)) hR5.out (by first | omega | (simp; done) | (simp; omega)) hz5 ?_; intro A6 c6 w6 ho6 hb6 _ _; rw [← HM1.out] at ho6 ⊢; have hb6' : Below w4.heap.size w4 w6 := ((Below.refl _ w4).alloc (Nat.le_refl _) _).trans hb6; have hb7 : Below w4.heap.size w4 (w6.alloc (.cells #[.string x.p] 9)) := hb6'.alloc hb6'.size _; have HO7 := Lib.hid (World.ownsRow.alloc ho6 (.cells #[.string x.p] 9)); have HR7 : Hid (Rd (w6.alloc (.cells #[.string x.p] 9)) (fun _ => True) 1 (some ⟨w6.heap.size, 0, none⟩) 1 (([tl x.p] : List (List UInt8)).map stv)) := (Rd.lit (w := w6) (t := 9) (size := 1) (n := 1) (xs := [.string x.p]) (b := w6.heap.size) rfl rfl (by simp)).mono (fun _ _ _ => trivial); clear hO5 hR5 ho6 hb6; have cx6 := HXC.out w6 (hwx.trans (hb6'.mono hwx.size)))
                | (refine wpList_append_sts rfl (.tmp 70) (.tmp 76) (t := 67) rfl rfl (L := M1) (M := [tl x.p]) (by first | rfl | (simp; done)) (by first | rfl | (simp; done)) HO7.out (by first | rfl | (simp; done)) HR7.out (by first | omega | (simp; done) | (simp; omega)) hb7.size ?_; intro A8 c8 w8 ho8 hb8 _ _; rw [← HM2.out] at ho8 ⊢; have hb8 : Below w4.heap.size w4 w8 := hb7.trans hb8; have HO8 := Lib.hid ho8; have HR8 := Lib.hid (HDR.out _ hb8); clear HO7 HR7 ho8 hb7 HDR)
                | (refine wpList_append_sts rfl (.tmp 78) (.tmp 81) (t := 67) rfl rfl (L := M2) (M := F.drop k) (by first | rfl | (simp; done)) (by first | rfl | (simp; done)) HO8.out (by first | rfl | (simp; done)) HR8.out (by first | omega | (simp; done) | (simp; omega)) hb8.size ?_; intro A9 c9 w9 ho9 hb9 _ _; rw [← HM3.out] at ho9 ⊢; clear HO8 HR8))
              have hb9 : Below w4.heap.size w4 w9 := hb8.trans hb9
              have HO9 := Lib.hid ho9
              rw [HI3.out] at HO9 ⊢
              clear ho9 hb8
              go_wp2_with fail
              go_roundw
              case rel => exact ⟨i + 1, A9, c9, insS (tl x.p) F, hlt, by go_num, rfl, HFS.out, HFM.out, HIL.out, own_base HO9.out (fun g hg => Nat.le_trans hw4.size (HO9.out.lt _ hg).1), hw4.trans (hb9.mono hw4.size)⟩
              case measure => simp [intOf]; omega
        · have hke : Hid (k = F.length) := Lib.hid (by omega)
          have HAT : Hid (atS (tl x.p) F = k) := Lib.hid (atS_of hk hkq.out (fun h => absurd h hkl))
          have HGK : Hid (F[k]? = none) := Lib.hid (by rw [hke.out]; simp)
          have HI : Hid (F.take k ++ tl x.p :: F.drop k = insS (tl x.p) F) := Lib.hid (by
            unfold insS
            rw [HAT.out, HGK.out, if_neg (by simp)])
          have HIL : Hid ((insS (tl x.p) F).length ≤ i + 1) := Lib.hid (by
            rw [← HI.out]; simp; omega)
          have hkd : decide ((k : Int) < (F.length : Int)) = false := decide_eq_false (by omega)
          have HCM : Hid True := trivial
          go_upto_region 7 with (fail)
          refine wp_region_b 17 (by kernel_rfl) (by kernel_rfl) ?_
          simp only [List.take_succ_cons, List.take_zero, List.drop_succ_cons, List.drop_zero]
          refine lb_move _ (by kernel_rfl) rfl ⟨_, (by ((try simp [go_sem]); (try rfl); done)), _, (by (simp only [Act.put, List.setIfInBounds_toArray, List.set_cons_zero, List.set_cons_succ]; rfl)), ?_⟩
          refine lb_move _ (by kernel_rfl) rfl ⟨_, (by ((try simp [go_sem]); (try rfl); done)), _, (by (simp only [Act.put, List.setIfInBounds_toArray, List.set_cons_zero, List.set_cons_succ]; rfl)), ?_⟩
          refine lb_val (by kernel_rfl) ⟨_, (by (intro w' hC; clear hC; (try go_simp); (try with_reducible rfl); done)), _, (by (simp only [Act.put, List.setIfInBounds_toArray, List.set_cons_zero, List.set_cons_succ]; rfl)), ?_⟩
          refine lb_val (by kernel_rfl) ⟨_, (by (intro w' hC; clear hC; (try go_simp); (try with_reducible rfl); done)), _, (by (simp only [Act.put, List.setIfInBounds_toArray, List.set_cons_zero, List.set_cons_succ]; rfl)), ?_⟩
          refine lb_move _ (by kernel_rfl) rfl ⟨_, (by ((try simp [go_sem]); (try rfl); done)), _, (by (simp only [Act.put, List.setIfInBounds_toArray, List.set_cons_zero, List.set_cons_succ]; rfl)), ?_⟩
          first | (refine lb_skip (by rfl) ⟨_, (by (simp only [Act.put, List.setIfInBounds_toArray, List.set_cons_zero, List.set_cons_succ]; rfl)), ?_⟩) | (refine lb_move _ (by kernel_rfl) rfl ⟨_, (by ((try simp [go_sem]); (try rfl); done)), _, (by (simp only [Act.put, List.setIfInBounds_toArray, List.set_cons_zero, List.set_cons_succ]; rfl)), ?_⟩)
          first | (refine lb_skip (by rfl) ⟨_, (by (simp only [Act.put, List.setIfInBounds_toArray, List.set_cons_zero, List.set_cons_succ]; rfl)), ?_⟩) | (refine lb_move _ (by kernel_rfl) rfl ⟨_, (by ((try simp [go_sem]); (try rfl); done)), _, (by (simp only [Act.put, List.setIfInBounds_toArray, List.set_cons_zero, List.set_cons_succ]; rfl)), ?_⟩)
          first | (refine lb_skip (by rfl) ⟨_, (by (simp only [Act.put, List.setIfInBounds_toArray, List.set_cons_zero, List.set_cons_succ]; rfl)), ?_⟩) | (refine lb_val (by kernel_rfl) ⟨_, (by (intro w' hC; clear hC; (try go_simp); (try with_reducible rfl); done)), _, (by (simp only [Act.put, List.setIfInBounds_toArray, List.set_cons_zero, List.set_cons_succ]; rfl)), ?_⟩)
          first | (refine lb_skip (by rfl) ⟨_, (by (simp only [Act.put, List.setIfInBounds_toArray, List.set_cons_zero, List.set_cons_succ]; rfl)), ?_⟩) | (refine lb_val (by kernel_rfl) ⟨_, (by (intro w' hC; (have f4 := (hC.cell hbb2).trans f0); clear hC; (try go_simp); (try with_reducible rfl); done)), _, (by (simp only [Act.put, List.setIfInBounds_toArray, List.set_cons_zero, List.set_cons_succ]; rfl)), ?_⟩)
          first | (refine lb_skip (by rfl) ⟨_, (by (simp only [Act.put, List.setIfInBounds_toArray, List.set_cons_zero, List.set_cons_succ]; rfl)), ?_⟩) | (refine lb_move _ (by kernel_rfl) rfl ⟨_, (by ((try simp [go_sem]); (try rfl); done)), _, (by (simp only [Act.put, List.setIfInBounds_toArray, List.set_cons_zero, List.set_cons_succ]; rfl)), ?_⟩)
          first | (refine lb_skip (by rfl) ⟨_, (by (simp only [Act.put, List.setIfInBounds_toArray, List.set_cons_zero, List.set_cons_succ]; rfl)), ?_⟩) | (refine lb_move _ (by kernel_rfl) rfl ⟨_, (by ((try simp [go_sem]); (try rfl); done)), _, (by (simp only [Act.put, List.setIfInBounds_toArray, List.set_cons_zero, List.set_cons_succ]; rfl)), ?_⟩)
          first | (refine lb_skip (by rfl) ⟨_, (by (simp only [Act.put, List.setIfInBounds_toArray, List.set_cons_zero, List.set_cons_succ]; rfl)), ?_⟩) | (refine lb_val (by kernel_rfl) ⟨_, (by (intro w' hC; clear hC; (try go_simp); (try with_reducible rfl); done)), _, (by (simp only [Act.put, List.setIfInBounds_toArray, List.set_cons_zero, List.set_cons_succ]; rfl)), ?_⟩)
          first | (refine lb_skip (by rfl) ⟨_, (by (simp only [Act.put, List.setIfInBounds_toArray, List.set_cons_zero, List.set_cons_succ]; rfl)), ?_⟩) | (refine lb_val (by kernel_rfl) ⟨_, (by (intro w' hC; clear hC; (try go_simp); (try with_reducible rfl); done)), _, (by (simp only [Act.put, List.setIfInBounds_toArray, List.set_cons_zero, List.set_cons_succ]; rfl)), ?_⟩)
          first | (refine lb_skip (by rfl) ⟨_, (by (simp only [Act.put, List.setIfInBounds_toArray, List.set_cons_zero, List.set_cons_succ]; rfl)), ?_⟩) | (refine lb_val (by kernel_rfl) ⟨_, (by (intro w' hC; (have cx := HXC.out w' (hb3.trans (hC.mono hb3.size))); clear hC; (try go_simp); (try with_reducible rfl); done)), _, (by (simp only [Act.put, List.setIfInBounds_toArray, List.set_cons_zero, List.set_cons_succ]; rfl)), ?_⟩)
          first | (refine lb_skip (by rfl) ⟨_, (by (simp only [Act.put, List.setIfInBounds_toArray, List.set_cons_zero, List.set_cons_succ]; rfl)), ?_⟩) | (refine lb_call (by kernel_rfl) (fun w' hC => HCM.out w') (by (intro w'; go_simp; done)) ⟨_, (by (simp only [Act.put, List.setIfInBounds_toArray, List.set_cons_zero, List.set_cons_succ]; rfl)), ?_⟩)
          first | (refine lb_skip (by rfl) ⟨_, (by (simp only [Act.put, List.setIfInBounds_toArray, List.set_cons_zero, List.set_cons_succ]; rfl)), ?_⟩) | (refine lb_val (by kernel_rfl) ⟨_, (by (intro w' hC; clear hC; (try go_simp); (try with_reducible rfl); done)), _, (by (simp only [Act.put, List.setIfInBounds_toArray, List.set_cons_zero, List.set_cons_succ]; rfl)), ?_⟩)
          refine lb_val (by kernel_rfl) ⟨_, (by (intro w' hC; clear hC; (try go_simp); (try with_reducible rfl); done)), _, (by (simp only [Act.put, List.setIfInBounds_toArray, List.set_cons_zero, List.set_cons_succ]; rfl)), ?_⟩
          refine .nil ?_
          intro w5 hb5
          have hwx := hb3.trans (hb5.mono hb3.size)
          go_upto_region 9 with (fail)
          refine wp_region_b 16 (by kernel_rfl) (by kernel_rfl) ?_
          simp only [List.take_succ_cons, List.take_zero, List.drop_succ_cons, List.drop_zero]
          refine lb_move _ (by kernel_rfl) rfl ⟨_, (by ((try simp [go_sem]); (try rfl); done)), _, (by (simp only [Act.put, List.setIfInBounds_toArray, List.set_cons_zero, List.set_cons_succ]; rfl)), ?_⟩
          refine lb_move _ (by kernel_rfl) rfl ⟨_, (by ((try simp [go_sem]); (try rfl); done)), _, (by (simp only [Act.put, List.setIfInBounds_toArray, List.set_cons_zero, List.set_cons_succ]; rfl)), ?_⟩
          refine lb_val (by kernel_rfl) ⟨_, (by (intro w' hC; clear hC; (try go_simp); (try with_reducible rfl); done)), _, (by (simp only [Act.put, List.setIfInBounds_toArray, List.set_cons_zero, List.set_cons_succ]; rfl)), ?_⟩
          refine lb_val (by kernel_rfl) ⟨_, (by (intro w' hC; clear hC; (try go_simp); (try with_reducible rfl); done)), _, (by (simp only [Act.put, List.setIfInBounds_toArray, List.set_cons_zero, List.set_cons_succ]; rfl)), ?_⟩
          refine lb_move _ (by kernel_rfl) rfl ⟨_, (by ((try simp [go_sem]); (try rfl); done)), _, (by (simp only [Act.put, List.setIfInBounds_toArray, List.set_cons_zero, List.set_cons_succ]; rfl)), ?_⟩
          first | (refine lb_skip (by rfl) ⟨_, (by (simp only [Act.put, List.setIfInBounds_toArray, List.set_cons_zero, List.set_cons_succ]; rfl)), ?_⟩) | (refine lb_move _ (by kernel_rfl) rfl ⟨_, (by ((try simp [go_sem]); (try rfl); done)), _, (by (simp only [Act.put, List.setIfInBounds_toArray, List.set_cons_zero, List.set_cons_succ]; rfl)), ?_⟩)
          first | (refine lb_skip (by rfl) ⟨_, (by (simp only [Act.put, List.setIfInBounds_toArray, List.set_cons_zero, List.set_cons_succ]; rfl)), ?_⟩) | (refine lb_move _ (by kernel_rfl) rfl ⟨_, (by ((try simp [go_sem]); (try rfl); done)), _, (by (simp only [Act.put, List.setIfInBounds_toArray, List.set_cons_zero, List.set_cons_succ]; rfl)), ?_⟩)
          first | (refine lb_skip (by rfl) ⟨_, (by (simp only [Act.put, List.setIfInBounds_toArray, List.set_cons_zero, List.set_cons_succ]; rfl)), ?_⟩) | (refine lb_val (by kernel_rfl) ⟨_, (by (intro w' hC; clear hC; (try go_simp); (try with_reducible rfl); done)), _, (by (simp only [Act.put, List.setIfInBounds_toArray, List.set_cons_zero, List.set_cons_succ]; rfl)), ?_⟩)
          first | (refine lb_skip (by rfl) ⟨_, (by (simp only [Act.put, List.setIfInBounds_toArray, List.set_cons_zero, List.set_cons_succ]; rfl)), ?_⟩) | (refine lb_val (by kernel_rfl) ⟨_, (by (intro w' hC; (have f5 := (hC.cell hbb4).trans f4); clear hC; (try go_simp); (try with_reducible rfl); done)), _, (by (simp only [Act.put, List.setIfInBounds_toArray, List.set_cons_zero, List.set_cons_succ]; rfl)), ?_⟩)
          first | (refine lb_skip (by rfl) ⟨_, (by (simp only [Act.put, List.setIfInBounds_toArray, List.set_cons_zero, List.set_cons_succ]; rfl)), ?_⟩) | (refine lb_move _ (by kernel_rfl) rfl ⟨_, (by ((try simp [go_sem]); (try rfl); done)), _, (by (simp only [Act.put, List.setIfInBounds_toArray, List.set_cons_zero, List.set_cons_succ]; rfl)), ?_⟩)
          first | (refine lb_skip (by rfl) ⟨_, (by (simp only [Act.put, List.setIfInBounds_toArray, List.set_cons_zero, List.set_cons_succ]; rfl)), ?_⟩) | (refine lb_move _ (by kernel_rfl) rfl ⟨_, (by ((try simp [go_sem]); (try rfl); done)), _, (by (simp only [Act.put, List.setIfInBounds_toArray, List.set_cons_zero, List.set_cons_succ]; rfl)), ?_⟩)
          first | (refine lb_skip (by rfl) ⟨_, (by (simp only [Act.put, List.setIfInBounds_toArray, List.set_cons_zero, List.set_cons_succ]; rfl)), ?_⟩) | (refine lb_val (by kernel_rfl) ⟨_, (by (intro w' hC; clear hC; (try go_simp); (try with_reducible rfl); done)), _, (by (simp only [Act.put, List.setIfInBounds_toArray, List.set_cons_zero, List.set_cons_succ]; rfl)), ?_⟩)
          first | (refine lb_skip (by rfl) ⟨_, (by (simp only [Act.put, List.setIfInBounds_toArray, List.set_cons_zero, List.set_cons_succ]; rfl)), ?_⟩) | (refine lb_val (by kernel_rfl) ⟨_, (by (intro w' hC; clear hC; (try go_simp); (try with_reducible rfl); done)), _, (by (simp only [Act.put, List.setIfInBounds_toArray, List.set_cons_zero, List.set_cons_succ]; rfl)), ?_⟩)
          first | (refine lb_skip (by rfl) ⟨_, (by (simp only [Act.put, List.setIfInBounds_toArray, List.set_cons_zero, List.set_cons_succ]; rfl)), ?_⟩) | (refine lb_val (by kernel_rfl) ⟨_, (by (intro w' hC; (have cx := HXC.out w' (hwx.trans (hC.mono hwx.size))); clear hC; (try go_simp); (try with_reducible rfl); done)), _, (by (simp only [Act.put, List.setIfInBounds_toArray, List.set_cons_zero, List.set_cons_succ]; rfl)), ?_⟩)
          first | (refine lb_skip (by rfl) ⟨_, (by (simp only [Act.put, List.setIfInBounds_toArray, List.set_cons_zero, List.set_cons_succ]; rfl)), ?_⟩) | (refine lb_val (by kernel_rfl) ⟨_, (by (intro w' hC; clear hC; (try go_simp); (try with_reducible rfl); done)), _, (by (simp only [Act.put, List.setIfInBounds_toArray, List.set_cons_zero, List.set_cons_succ]; rfl)), ?_⟩)
          refine lb_val (by kernel_rfl) ⟨_, (by (intro w' hC; clear hC; (try go_simp); (try with_reducible rfl); done)), _, (by (simp only [Act.put, List.setIfInBounds_toArray, List.set_cons_zero, List.set_cons_succ]; rfl)), ?_⟩
          refine .nil ?_
          intro w4 hb4
          replace hwx := hwx.trans (hb4.mono hwx.size)
          have hw4 := hw2.trans (hwx.mono hw2.size)
          have HO4 := Lib.hid (own_below HO2.out hwx)
          have cx := HXC.out w4 hwx
          have cx5 := HXC.out (w4.alloc (.cells #[] 9)) (hwx.alloc hwx.size _)
          clear HCM HGK hud hb4 hb5
          go_upto_region 10 with (fail)
          by_cases hF0 : F.length = 0
          · obtain rfl : F = [] := List.eq_nil_of_length_eq_zero hF0
            obtain rfl : k = 0 := by simp at hk; exact hk
            clear hF0
            rcases A' with _ | ⟨g, ao, ap⟩
            · obtain ⟨_, rfl⟩ := HF4.out rfl
              have hO5 := Lib.hid (World.ownsRow_lit (base := w4.heap.size) (e := 9) (size := 1) w4 #[] 0 (Nat.le_refl _) (by simp [maxLen]) (by simp))
              have hz5 : w4.heap.size ≤ (w4.alloc (.cells #[] 9)).heap.size := by simp
              obtain ⟨M2, hM2⟩ : ∃ M2, M2 = [] ++ [tl x.p] := ⟨_, rfl⟩
              have hM2l : M2.length ≤ 1000001 := by rw [hM2]; simp
              obtain ⟨M3, hM3⟩ : ∃ M3, M3 = M2 ++ ([] : List (List UInt8)) := ⟨_, rfl⟩
              have HM2 := Lib.hid hM2
              have HM3 := Lib.hid hM3
              have HI3 : Hid (M3 = insS (tl x.p) ([] : List (List UInt8))) := Lib.hid (by rw [hM3, hM2, ← HI.out]; simp)
              have HO7 := Lib.hid (World.ownsRow.alloc hO5.out (.cells #[.string x.p] 9))
              have HR7 : Hid (Rd ((w4.alloc (.cells #[] 9)).alloc (.cells #[.string x.p] 9)) (fun _ => True) 1 (some ⟨w4.heap.size + 1, 0, none⟩) 1 (([tl x.p] : List (List UInt8)).map stv)) := (Rd.lit (w := (w4.alloc (.cells #[] 9))) (t := 9) (size := 1) (n := 1) (xs := [.string x.p]) (b := w4.heap.size + 1) rfl rfl (by simp)).mono (fun _ _ _ => trivial)
              have hb7 : Below w4.heap.size w4 ((w4.alloc (.cells #[] 9)).alloc (.cells #[.string x.p] 9)) := ((Below.refl _ w4).alloc (Nat.le_refl _) _).alloc (by simp) _
              clear hM2 hM3 HI
              go_wp2_with (at_builtin; first
                | (refine wpList_append_sts rfl (.tmp 70) (.tmp 76) (t := 67) rfl rfl (L := []) (M := [tl x.p]) (by first | rfl | (simp; done)) (by first | rfl | (simp; done)) HO7.out (by first | rfl | (simp; done)) HR7.out (by first | omega | (simp; done) | (simp; omega)) hb7.size ?_; intro A8 c8 w8 ho8 hb8 _ _; rw [← HM2.out] at ho8 ⊢; have hb8 : Below w4.heap.size w4 w8 := hb7.trans hb8; have HO8 := Lib.hid ho8; clear HO7 HR7 ho8 hb7)
                | (refine wpList_append_sts rfl (.tmp 78) (.tmp 81) (t := 67) rfl rfl (L := M2) (M := ([] : List (List UInt8))) (by first | rfl | (simp; done)) (by first | rfl | (simp; done)) HO8.out (by first | rfl | (simp; done)) (Rd.nil : Rd _ (fun _ => True) 1 _ 0 []) (by first | omega | (simp; done) | (simp; omega)) hb8.size ?_; intro A9 c9 w9 ho9 hb9 _ _; rw [← HM3.out] at ho9 ⊢; clear HO8))
              have hb9 : Below w4.heap.size w4 w9 := hb8.trans hb9
              have HO9 := Lib.hid ho9
              rw [HI3.out] at HO9 ⊢
              clear ho9 hb8
              go_wp2_with fail
              go_roundw
              case rel => exact ⟨i + 1, A9, c9, insS (tl x.p) ([] : List (List UInt8)), hlt, by go_num, rfl, HFS.out, HFM.out, HIL.out, own_base HO9.out (fun g hg => Nat.le_trans hw4.size (HO9.out.lt _ hg).1), hw4.trans (hb9.mono hw4.size)⟩
              case measure => simp [intOf]; omega
            · obtain ⟨rfl, rfl⟩ : ao = 0 ∧ ap = none := by
                have := HF5.out _ rfl
                simpa using this
              have hO5 := Lib.hid (World.ownsRow_lit (base := w4.heap.size) (e := 9) (size := 1) w4 #[] 0 (Nat.le_refl _) (by simp [maxLen]) (by simp))
              have hz5 : w4.heap.size ≤ (w4.alloc (.cells #[] 9)).heap.size := by simp
              obtain ⟨M2, hM2⟩ : ∃ M2, M2 = [] ++ [tl x.p] := ⟨_, rfl⟩
              have hM2l : M2.length ≤ 1000001 := by rw [hM2]; simp
              obtain ⟨M3, hM3⟩ : ∃ M3, M3 = M2 ++ ([] : List (List UInt8)) := ⟨_, rfl⟩
              have HM2 := Lib.hid hM2
              have HM3 := Lib.hid hM3
              have HI3 : Hid (M3 = insS (tl x.p) ([] : List (List UInt8))) := Lib.hid (by rw [hM3, hM2, ← HI.out]; simp)
              have HO7 := Lib.hid (World.ownsRow.alloc hO5.out (.cells #[.string x.p] 9))
              have HR7 : Hid (Rd ((w4.alloc (.cells #[] 9)).alloc (.cells #[.string x.p] 9)) (fun _ => True) 1 (some ⟨w4.heap.size + 1, 0, none⟩) 1 (([tl x.p] : List (List UInt8)).map stv)) := (Rd.lit (w := (w4.alloc (.cells #[] 9))) (t := 9) (size := 1) (n := 1) (xs := [.string x.p]) (b := w4.heap.size + 1) rfl rfl (by simp)).mono (fun _ _ _ => trivial)
              have hb7 : Below w4.heap.size w4 ((w4.alloc (.cells #[] 9)).alloc (.cells #[.string x.p] 9)) := ((Below.refl _ w4).alloc (Nat.le_refl _) _).alloc (by simp) _
              clear hM2 hM3 HI
              go_wp2_with (at_builtin; first
                | (refine wpList_append_sts rfl (.tmp 70) (.tmp 76) (t := 67) rfl rfl (L := []) (M := [tl x.p]) (by first | rfl | (simp; done)) (by first | rfl | (simp; done)) HO7.out (by first | rfl | (simp; done)) HR7.out (by first | omega | (simp; done) | (simp; omega)) hb7.size ?_; intro A8 c8 w8 ho8 hb8 _ _; rw [← HM2.out] at ho8 ⊢; have hb8 : Below w4.heap.size w4 w8 := hb7.trans hb8; have HO8 := Lib.hid ho8; clear HO7 HR7 ho8 hb7)
                | (refine wpList_append_sts rfl (.tmp 78) (.tmp 81) (t := 67) rfl rfl (L := M2) (M := ([] : List (List UInt8))) (by first | rfl | (simp; done)) (by first | rfl | (simp; done)) HO8.out (by first | rfl | (simp; done)) (Rd.nil : Rd _ (fun _ => True) 1 _ 0 []) (by first | omega | (simp; done) | (simp; omega)) hb8.size ?_; intro A9 c9 w9 ho9 hb9 _ _; rw [← HM3.out] at ho9 ⊢; clear HO8))
              have hb9 : Below w4.heap.size w4 w9 := hb8.trans hb9
              have HO9 := Lib.hid ho9
              rw [HI3.out] at HO9 ⊢
              clear ho9 hb8
              go_wp2_with fail
              go_roundw
              case rel => exact ⟨i + 1, A9, c9, insS (tl x.p) ([] : List (List UInt8)), hlt, by go_num, rfl, HFS.out, HFM.out, HIL.out, own_base HO9.out (fun g hg => Nat.le_trans hw4.size (HO9.out.lt _ hg).1), hw4.trans (hb9.mono hw4.size)⟩
              case measure => simp [intOf]; omega
          · rcases A' with _ | ⟨g, ao, ap⟩
            · exact absurd (HF4.out rfl).1 hF0
            obtain ⟨rfl, rfl⟩ : ao = 0 ∧ ap = none := by
              have := HF5.out _ rfl
              simpa using this
            have b5 : ¬ k = 0 := by have := hke.out; omega
            have b4 : ¬ c' = 0 := by omega
            by_cases hck : c' = k
            · have b3 : c' - k = 0 := by omega
              have HCK := Lib.hid hck
              clear hck
              have hO5 := Lib.hid (World.ownsRow_lit (base := w4.heap.size) (e := 9) (size := 1) w4 #[] 0 (Nat.le_refl _) (by simp [maxLen]) (by simp))
              have hz5 : w4.heap.size ≤ (w4.alloc (.cells #[] 9)).heap.size := by simp
              have hR5 : Hid (Rd (w4.alloc (.cells #[] 9)) (fun _ => True) 1 (some ⟨g, 0, none⟩) k ((F.take k).map stv)) := Lib.hid (by
                have := ((own_rd HO4.out).mono (fun _ _ _ => trivial)).take hk
                rw [Nat.mul_one, ← List.map_take] at this
                exact this.alloc _)
              obtain ⟨M1, hM1⟩ : ∃ M1, M1 = [] ++ F.take k := ⟨_, rfl⟩
              have hM1l : M1.length ≤ 1000000 := by rw [hM1]; simp <;> omega
              obtain ⟨M2, hM2⟩ : ∃ M2, M2 = M1 ++ [tl x.p] := ⟨_, rfl⟩
              have hM2l : M2.length ≤ 1000001 := by rw [hM2]; simp <;> omega
              obtain ⟨M3, hM3⟩ : ∃ M3, M3 = M2 ++ F.drop k := ⟨_, rfl⟩
              have HM3 := Lib.hid hM3
              have HI3 : Hid (M3 = insS (tl x.p) F) := Lib.hid (by rw [hM3, hM2, hM1, ← HI.out]; simp)
              have HM1 := Lib.hid hM1
              have HM2 := Lib.hid hM2
              have HDR := Lib.hid (fun w8 (hb8 : Below w4.heap.size w4 w8) => ((own_rd (own_below HO4.out hb8)).mono (Z' := fun _ => True) (fun _ _ _ => trivial)).drop (k := k) (cap := c') hk hF1)
              rw [Nat.mul_one, ← List.map_drop] at HDR
              rw [if_pos HCK.out] at HDR
              clear hM1 hM2 hM3 HI
              go_wp2_with (at_builtin; first
                | (refine wpList_append_sts rfl (.tmp 65) (.tmp 68) (t := 67) rfl rfl (L := []) (M := F.take k) (by first | rfl | (simp; done)) (by first | rfl | (simp; done)) hO5.out (by first | rfl | (simp; done)) hR5.out (by first | omega | (simp; done) | (simp; omega)) hz5 ?_; intro A6 c6 w6 ho6 hb6 _ _; rw [← HM1.out] at ho6 ⊢; have hb6' : Below w4.heap.size w4 w6 := ((Below.refl _ w4).alloc (Nat.le_refl _) _).trans hb6; have hb7 : Below w4.heap.size w4 (w6.alloc (.cells #[.string x.p] 9)) := hb6'.alloc hb6'.size _; have HO7 := Lib.hid (World.ownsRow.alloc ho6 (.cells #[.string x.p] 9)); have HR7 : Hid (Rd (w6.alloc (.cells #[.string x.p] 9)) (fun _ => True) 1 (some ⟨w6.heap.size, 0, none⟩) 1 (([tl x.p] : List (List UInt8)).map stv)) := (Rd.lit (w := w6) (t := 9) (size := 1) (n := 1) (xs := [.string x.p]) (b := w6.heap.size) rfl rfl (by simp)).mono (fun _ _ _ => trivial); clear hO5 hR5 ho6 hb6; have cx6 := HXC.out w6 (hwx.trans (hb6'.mono hwx.size)))
                | (refine wpList_append_sts rfl (.tmp 70) (.tmp 76) (t := 67) rfl rfl (L := M1) (M := [tl x.p]) (by first | rfl | (simp; done)) (by first | rfl | (simp; done)) HO7.out (by first | rfl | (simp; done)) HR7.out (by first | omega | (simp; done) | (simp; omega)) hb7.size ?_; intro A8 c8 w8 ho8 hb8 _ _; rw [← HM2.out] at ho8 ⊢; have hb8 : Below w4.heap.size w4 w8 := hb7.trans hb8; have HO8 := Lib.hid ho8; have HR8 := Lib.hid (HDR.out _ hb8); clear HO7 HR7 ho8 hb7 HDR)
                | (refine wpList_append_sts rfl (.tmp 78) (.tmp 81) (t := 67) rfl rfl (L := M2) (M := F.drop k) (by first | rfl | (simp; done)) (by first | rfl | (simp; done)) HO8.out (by first | rfl | (simp; done)) HR8.out (by first | omega | (simp; done) | (simp; omega)) hb8.size ?_; intro A9 c9 w9 ho9 hb9 _ _; rw [← HM3.out] at ho9 ⊢; clear HO8 HR8))
              have hb9 : Below w4.heap.size w4 w9 := hb8.trans hb9
              have HO9 := Lib.hid ho9
              rw [HI3.out] at HO9 ⊢
              clear ho9 hb8
              go_wp2_with fail
              go_roundw
              case rel => exact ⟨i + 1, A9, c9, insS (tl x.p) F, hlt, by go_num, rfl, HFS.out, HFM.out, HIL.out, own_base HO9.out (fun g hg => Nat.le_trans hw4.size (HO9.out.lt _ hg).1), hw4.trans (hb9.mono hw4.size)⟩
              case measure => simp [intOf]; omega
            · have b3 : ¬ c' - k = 0 := by omega
              have hO5 := Lib.hid (World.ownsRow_lit (base := w4.heap.size) (e := 9) (size := 1) w4 #[] 0 (Nat.le_refl _) (by simp [maxLen]) (by simp))
              have hz5 : w4.heap.size ≤ (w4.alloc (.cells #[] 9)).heap.size := by simp
              have hR5 : Hid (Rd (w4.alloc (.cells #[] 9)) (fun _ => True) 1 (some ⟨g, 0, none⟩) k ((F.take k).map stv)) := Lib.hid (by
                have := ((own_rd HO4.out).mono (fun _ _ _ => trivial)).take hk
                rw [Nat.mul_one, ← List.map_take] at this
                exact this.alloc _)
              obtain ⟨M1, hM1⟩ : ∃ M1, M1 = [] ++ F.take k := ⟨_, rfl⟩
              have hM1l : M1.length ≤ 1000000 := by rw [hM1]; simp <;> omega
              obtain ⟨M2, hM2⟩ : ∃ M2, M2 = M1 ++ [tl x.p] := ⟨_, rfl⟩
              have hM2l : M2.length ≤ 1000001 := by rw [hM2]; simp <;> omega
              obtain ⟨M3, hM3⟩ : ∃ M3, M3 = M2 ++ F.drop k := ⟨_, rfl⟩
              have HM3 := Lib.hid hM3
              have HI3 : Hid (M3 = insS (tl x.p) F) := Lib.hid (by rw [hM3, hM2, hM1, ← HI.out]; simp)
              have HM1 := Lib.hid hM1
              have HM2 := Lib.hid hM2
              have HDR := Lib.hid (fun w8 (hb8 : Below w4.heap.size w4 w8) => ((own_rd (own_below HO4.out hb8)).mono (Z' := fun _ => True) (fun _ _ _ => trivial)).drop (k := k) (cap := c') hk hF1)
              rw [Nat.mul_one, ← List.map_drop] at HDR
              rw [if_neg hck, Option.map_some, add_none, Nat.zero_add] at HDR
              clear hM1 hM2 hM3 HI
              go_wp2_with (at_builtin; first
                | (refine wpList_append_sts rfl (.tmp 65) (.tmp 68) (t := 67) rfl rfl (L := []) (M := F.take k) (by first | rfl | (simp; done)) (by first | rfl | (simp; done)) hO5.out (by first | rfl | (simp; done)) hR5.out (by first | omega | (simp; done) | (simp; omega)) hz5 ?_; intro A6 c6 w6 ho6 hb6 _ _; rw [← HM1.out] at ho6 ⊢; have hb6' : Below w4.heap.size w4 w6 := ((Below.refl _ w4).alloc (Nat.le_refl _) _).trans hb6; have hb7 : Below w4.heap.size w4 (w6.alloc (.cells #[.string x.p] 9)) := hb6'.alloc hb6'.size _; have HO7 := Lib.hid (World.ownsRow.alloc ho6 (.cells #[.string x.p] 9)); have HR7 : Hid (Rd (w6.alloc (.cells #[.string x.p] 9)) (fun _ => True) 1 (some ⟨w6.heap.size, 0, none⟩) 1 (([tl x.p] : List (List UInt8)).map stv)) := (Rd.lit (w := w6) (t := 9) (size := 1) (n := 1) (xs := [.string x.p]) (b := w6.heap.size) rfl rfl (by simp)).mono (fun _ _ _ => trivial); clear hO5 hR5 ho6 hb6; have cx6 := HXC.out w6 (hwx.trans (hb6'.mono hwx.size)))
                | (refine wpList_append_sts rfl (.tmp 70) (.tmp 76) (t := 67) rfl rfl (L := M1) (M := [tl x.p]) (by first | rfl | (simp; done)) (by first | rfl | (simp; done)) HO7.out (by first | rfl | (simp; done)) HR7.out (by first | omega | (simp; done) | (simp; omega)) hb7.size ?_; intro A8 c8 w8 ho8 hb8 _ _; rw [← HM2.out] at ho8 ⊢; have hb8 : Below w4.heap.size w4 w8 := hb7.trans hb8; have HO8 := Lib.hid ho8; have HR8 := Lib.hid (HDR.out _ hb8); clear HO7 HR7 ho8 hb7 HDR)
                | (refine wpList_append_sts rfl (.tmp 78) (.tmp 81) (t := 67) rfl rfl (L := M2) (M := F.drop k) (by first | rfl | (simp; done)) (by first | rfl | (simp; done)) HO8.out (by first | rfl | (simp; done)) HR8.out (by first | omega | (simp; done) | (simp; omega)) hb8.size ?_; intro A9 c9 w9 ho9 hb9 _ _; rw [← HM3.out] at ho9 ⊢; clear HO8 HR8))
              have hb9 : Below w4.heap.size w4 w9 := hb8.trans hb9
              have HO9 := Lib.hid ho9
              rw [HI3.out] at HO9 ⊢
              clear ho9 hb8
              go_wp2_with fail
              go_roundw
              case rel => exact ⟨i + 1, A9, c9, insS (tl x.p) F, hlt, by go_num, rfl, HFS.out, HFM.out, HIL.out, own_base HO9.out (fun g hg => Nat.le_trans hw4.size (HO9.out.lt _ hg).1), hw4.trans (hb9.mono hw4.size)⟩
              case measure => simp [intOf]; omega
    · have e : i = al.length := by omega
      subst e
      rw [List.take_length] at hFm
      obtain rfl : F = pathsR al := set_eq hFs.out hFm.out
      obtain ⟨w7, hw7e⟩ : ∃ w7, w7 = wr := ⟨_, rfl⟩
      rw [← hw7e] at hown hb
      have HPP : Hid (∀ q ∈ pathsR al, q.length ≤ 1048576) := Lib.hid (fun q hq => by
        rw [pathsR_mem] at hq
        obtain ⟨y, hy, e⟩ := List.mem_map.1 hq
        have := (HAR.out.ok y hy).1
        rw [← e, tl_len]
        omega)
      obtain ⟨P, hP⟩ : ∃ P, P = pathsR al := ⟨_, rfl⟩
      rw [← hP] at hown HPP HG hFl
      have HO7 := Lib.hid hown
      have hw7 := hw3.trans (hb.mono hw3.size)
      have h37 := hb
      have HB7 : Hid (∀ W, Below w7.heap.size w7 W → W.cell? ⟨w.heap.size, 0, none⟩ = some (.int .u64 s) ∧ W.cell? ⟨w.heap.size, 1, none⟩ = some (.slice A M.length c)) := Lib.hid (fun W hW => HB3.out W (h37.trans (hW.mono h37.size)))
      have hnl : decide (((al.length : Nat) : Int) < (al.length : Int)) = false := decide_eq_false (by omega)
      rw [← hP]
      subst hw7e
      clear hFs hFm hown hb hP HB3 h37
      go_wp2_with fail
      go_loopw [12, 13] (fun ov iv wr => ∃ (i : Nat) (A1 : Option Addr) (c' : Nat) (cl : List CV), i ≤ P.length ∧ iv = .int .i64 (i : Int) ∧ ov = .slice A1 cl.length c' ∧ Hid (cl = (P.take i).map (chgV T mine theirs)) ∧ cl.length ≤ i ∧ Row wr w7.heap.size 47 9 A1 cl.length c' (cl.flatMap CV.cells) ∧ Below w7.heap.size w7 wr) (fun _ iv _ => P.length - (intOf iv).toNat)
      case atStart => exact ⟨0, none, 0, [], Nat.zero_le _, rfl, rfl, rfl, Nat.le_refl _, Row.none_ _ _ _ _, Below.refl _ _⟩
      case round =>
        obtain ⟨i, A1, c', cl, hi, rfl, rfl, hcl, hcll, hO, hb⟩ := hrel
        have hwr := hw7.trans (hb.mono hw7.size)
        by_cases hlt : i < P.length
        · obtain ⟨b0, off, hA, hbb, c0⟩ := txt_atE rfl (own_below HO7.out hb) hlt
          have hps := HPP.out _ (List.getElem_mem hlt)
          have hss : (P.take (i + 1)).map (chgV T mine theirs) = cl ++ [chgV T mine theirs P[i]] := by
            rw [List.take_succ_eq_append_getElem hlt, List.map_append, ← hcl.out]
            rfl
          obtain ⟨p, hp⟩ : ∃ p, p = P[i] := ⟨_, rfl⟩
          rw [← hp] at c0 hps hss
          simp only [stv] at c0
          have HS := Lib.hid hss
          have HGT := Lib.hid (refGet22_any A c M s ⟨⟨p⟩⟩ wr (HE.out.below hwr))
          obtain ⟨q0, q1⟩ := HB7.out wr hb
          subst hA
          clear hp hss hcl
          go_wp2_with fail
          refine HGT.out.mono ?_
          rintro e w4 ⟨⟨o, rfl, ho⟩, hb4⟩
          obtain ⟨b, hbk⟩ : ∃ b, b = o.k := ⟨_, rfl⟩
          have HBV : Hid (b = kindP T p) := Lib.hid (by rw [hbk, ho.out]; exact findE_k T ⟨⟨p⟩⟩ M HTT.out)
          rw [← hbk]
          have hf1 := fun W => (show (Instr.field 41 (.agg #[.string o.p, .int .u64 o.v, .int .i64 b, .slice o.x.A o.x.l.length o.x.c]) 2).run Tryz.prog W = .ok (.agg #[.int .i64 b, .slice o.x.A o.x.l.length o.x.c]) W by kernel_rfl)
          have hf2 := fun W => (show (Instr.field 35 (.agg #[.int .i64 b, .slice o.x.A o.x.l.length o.x.c]) 0).run Tryz.prog W = .ok (.int .i64 b) W by kernel_rfl)
          have hba : Below w4.heap.size w4 (w4.alloc (.cells #[.string ⟨⟨p⟩⟩, .int .i64 b, .bool false, .bool false, .int .i64 b, .int .i64 b, .int .i64 0, .int .i64 0, .int .i64 0] 47)) := (Below.refl _ _).alloc (Nat.le_refl _) _
          have yA := Blk.new w4 47 #[.string ⟨⟨p⟩⟩, .int .i64 b, .bool false, .bool false, .int .i64 b, .int .i64 b, .int .i64 0, .int .i64 0, .int .i64 0]
          have hw5' := hb4.trans (hba.mono hb4.size)
          have hcbl : wr.heap.size ≤ w4.heap.size := hb4.size
          clear HGT ho c0 q0 q1 hbk
          go_upto_region 20 with (fail)
          generalize w4.alloc (.cells #[.string ⟨⟨p⟩⟩, .int .i64 b, .bool false, .bool false, .int .i64 b, .int .i64 b, .int .i64 0, .int .i64 0, .int .i64 0] 47) = w5a at *
          clear hba
          have HF1 := Lib.hid (refFind25_any C cc mine ⟨⟨p⟩⟩ w5a (HM.out.below (hwr.trans (hw5'.mono hwr.size))))
          go_wp2_with fail
          refine HF1.out.mono ?_
          rintro e w5b ⟨rfl, hb5⟩
          have hw5b := hw5'.trans (hb5.mono hw5'.size)
          have y5 := yA.below hb5
          clear HF1 hb5 yA
          rcases him : idxR ⟨⟨p⟩⟩ mine with _ | j1
          · have HFM : Hid (findRv ⟨⟨p⟩⟩ mine = none) := Lib.hid (by unfold findRv; rw [him]; rfl)
            have hv1 : idxV none = -1 := rfl
            rw [hv1]
            have yA := y5
            clear y5 him hv1
            have HF2 := Lib.hid (refFind25_any D d theirs ⟨⟨p⟩⟩ w5b (HT.out.below (hwr.trans ((hw5b).mono hwr.size))))
            go_wp2_with fail
            refine HF2.out.mono ?_
            rintro e w6 ⟨rfl, hb6⟩
            have hw6 := (hw5b).trans (hb6.mono (hw5b).size)
            have y6 := yA.below hb6
            have y7l := y6.lt
            clear HF2 hb6 yA
            rcases hit : idxR ⟨⟨p⟩⟩ theirs with _ | j2
            · have HFT : Hid (findRv ⟨⟨p⟩⟩ theirs = none) := Lib.hid (by unfold findRv; rw [hit]; rfl)
              have hv2 : idxV none = -1 := rfl
              rw [hv2]
              have yC := y6
              clear y6 hit hv2
              obtain ⟨vd, hvd⟩ : ∃ vd, vd = verd false false (b) (b) (0) (0) := ⟨_, rfl⟩
              have HVD := Lib.hid (verdictR_any ⟨⟨p⟩⟩ b false false (b) (b) (0) (0) 0 w6)
              rw [← hvd] at HVD
              have HCV : Hid (chgV T mine theirs p = ⟨⟨⟨p⟩⟩, b, false, false, b, b, 0, 0, vd⟩) := Lib.hid (by
                unfold chgV
                rw [← HBV.out, HFM.out, HFT.out, hvd]
                rfl)
              have p0 := yC.cell 0
              have p1 := yC.cell 1
              have p2 := yC.cell 2
              have p3 := yC.cell 3
              have p4 := yC.cell 4
              have p5 := yC.cell 5
              have p6 := yC.cell 6
              have p7 := yC.cell 7
              have p8 := yC.cell 8
              simp only [List.getElem?_toArray, List.getElem?_cons_zero, List.getElem?_cons_succ] at p0 p1 p2 p3 p4 p5 p6 p7 p8
              clear hvd HFM HFT
              go_wp2_with fail
              refine HVD.out.mono ?_
              rintro e w8 ⟨rfl, hb8⟩
              have hw8 := hw6.trans (hb8.mono hw6.size)
              have y8 := yC.below hb8
              have fr8 := fun o => y8.frozen o
              have ho8 := (hO.below (hw6)).below hb8
              have k9 : Fr (fun z => z = w4.heap.size) w8 (w8.setCell ⟨w4.heap.size, 8, none⟩ (.int .i64 vd)) := (Fr.refl (fun z => z = w4.heap.size) w8).setAt w4.heap.size _ rfl _
              have y9 := y8.set_ 8 (.int .i64 vd)
              simp only [List.setIfInBounds_toArray, List.set_cons_zero, List.set_cons_succ] at y9
              have ho9 := ho8.fr k9 (fun g hg e => by have := (ho8.lt g hg); have := (hO.lt g hg).2; omega)
              have hw9 : Below wr.heap.size wr (w8.setCell ⟨w4.heap.size, 8, none⟩ (.int .i64 vd)) := hw8.trans (k9.below (B := wr.heap.size) hw8.size (fun k hk e => by omega))
              have q0 := y8.cell 0
              have q1 := y8.cell 1
              have q2 := y8.cell 2
              have q3 := y8.cell 3
              have q4 := y8.cell 4
              have q5 := y8.cell 5
              have q6 := y8.cell 6
              have q7 := y8.cell 7
              have q8 := y8.cell 8
              simp only [List.getElem?_toArray, List.getElem?_cons_zero, List.getElem?_cons_succ] at q0 q1 q2 q3 q4 q5 q6 q7 q8
              clear HVD p0 p1 p2 p3 p4 p5 p6 p7 p8 yC
              go_upto_region 31 with (fail)
              generalize w8.setCell ⟨w4.heap.size, 8, none⟩ (.int .i64 vd) = w9 at *
              clear q0 q1 q2 q3 q4 q5 q6 q7 q8 fr8 k9 y8 ho8
              have q0 := y9.cell 0
              have q1 := y9.cell 1
              have q2 := y9.cell 2
              have q3 := y9.cell 3
              have q4 := y9.cell 4
              have q5 := y9.cell 5
              have q6 := y9.cell 6
              have q7 := y9.cell 7
              have q8 := y9.cell 8
              simp only [List.getElem?_toArray, List.getElem?_cons_zero, List.getElem?_cons_succ] at q0 q1 q2 q3 q4 q5 q6 q7 q8
              have HOA := Lib.hid (ho9.below ((Below.refl _ w9).alloc (Nat.le_refl _) (.cells #[.string ⟨⟨p⟩⟩, .int .i64 b, .bool false, .bool false, .int .i64 b, .int .i64 b, .int .i64 0, .int .i64 0, .int .i64 vd] 47)))
              have HRA : Hid (Rd (w9.alloc (.cells #[.string ⟨⟨p⟩⟩, .int .i64 b, .bool false, .bool false, .int .i64 b, .int .i64 b, .int .i64 0, .int .i64 0, .int .i64 vd] 47)) (fun _ => True) 9 (some ⟨w9.heap.size, 0, none⟩) 1 (CV.cells ⟨⟨⟨p⟩⟩, b, false, false, b, b, 0, 0, vd⟩)) := (Rd.lit (w := w9) (t := 47) (size := 9) (n := 1) (xs := CV.cells ⟨⟨⟨p⟩⟩, b, false, false, b, b, 0, 0, vd⟩) rfl rfl rfl).mono (fun _ _ _ => trivial)
              have hs9 : w7.heap.size ≤ (w9.alloc (.cells #[.string ⟨⟨p⟩⟩, .int .i64 b, .bool false, .bool false, .int .i64 b, .int .i64 b, .int .i64 0, .int .i64 0, .int .i64 vd] 47)).heap.size := by have := hb.size; have := hw9.size; simp; omega
              have hba9 := hw9.alloc hw9.size (.cells #[.string ⟨⟨p⟩⟩, .int .i64 b, .bool false, .bool false, .int .i64 b, .int .i64 b, .int .i64 0, .int .i64 0, .int .i64 vd] 47)
              clear ho9 y9
              go_wp2_with (at_builtin; refine wpList_append_ch rfl (.tmp 142) (.tmp 144) (t := 42) rfl rfl rfl HOA.out rfl HRA.out (by omega) hs9 ?_; intro A10 c10 w10 hO10 hb10)
              have hbb : Below w7.heap.size w7 w10 := (hb.trans (hba9.mono hb.size)).trans hb10
              have HN := Lib.hid HS.out
              rw [HCV.out] at HN
              go_roundw
              case rel => exact ⟨i + 1, A10, c10, cl ++ [⟨⟨⟨p⟩⟩, b, false, false, b, b, 0, 0, vd⟩], hlt, by go_num, by simp, Lib.hid HN.out.symm, by simp; omega, hO10, hbb⟩
              case measure => simp [intOf]; omega
            · obtain ⟨hj2, _⟩ := idxR_get hit
              have HFT : Hid (findRv ⟨⟨p⟩⟩ theirs = some theirs[j2]) := Lib.hid (by unfold findRv; rw [hit]; simp [hj2])
              obtain ⟨b2, off2, hA2, hbl2, _, d1, _, _, d4⟩ := HT.out.at_ hj2
              have hwK := hwr.trans (hw6.mono hwr.size)
              have hn1 : ¬ b2 = w4.heap.size := by have := hwr.size; omega
              have hn1' : ¬ w4.heap.size = b2 := fun e => hn1 e.symm
              replace d1 := (hwK.cell hbl2).trans d1
              replace d4 := (hwK.cell hbl2).trans d4
              obtain ⟨x2, hx2⟩ : ∃ x2, x2 = theirs[j2] := ⟨_, rfl⟩
              rw [← hx2] at d1 d4 HFT
              have hv2 : idxV (some j2) = (j2 : Int) := rfl
              rw [hv2]
              have hj20 : decide ((0 : Int) ≤ (j2 : Int)) = true := decide_eq_true (by omega)
              subst hA2
              clear hit hv2 hx2
              have fr5 := fun o => y6.frozen o
              have p0 := y6.cell 0
              have p1 := y6.cell 1
              have p2 := y6.cell 2
              have p3 := y6.cell 3
              have p4 := y6.cell 4
              have p5 := y6.cell 5
              have p6 := y6.cell 6
              have p7 := y6.cell 7
              have p8 := y6.cell 8
              simp only [List.getElem?_toArray, List.getElem?_cons_zero, List.getElem?_cons_succ] at p0 p1 p2 p3 p4 p5 p6 p7 p8
              have kN : Fr (fun z => z = w4.heap.size) w6 (((w6.setCell ⟨w4.heap.size, 3, none⟩ (.bool true)).setCell ⟨w4.heap.size, 5, none⟩ (.int .i64 x2.k)).setCell ⟨w4.heap.size, 7, none⟩ (.int .i64 x2.z)) := ((((Fr.refl (fun z => z = w4.heap.size) w6).setAt w4.heap.size _ rfl _).setAt w4.heap.size _ rfl _).setAt w4.heap.size _ rfl _)
              have yC := (((y6.set_ 3 (.bool true)).set_ 5 (.int .i64 x2.k)).set_ 7 (.int .i64 x2.z))
              simp only [List.setIfInBounds_toArray, List.set_cons_zero, List.set_cons_succ] at yC
              have hw7u : Below wr.heap.size wr (((w6.setCell ⟨w4.heap.size, 3, none⟩ (.bool true)).setCell ⟨w4.heap.size, 5, none⟩ (.int .i64 x2.k)).setCell ⟨w4.heap.size, 7, none⟩ (.int .i64 x2.z)) := (hw6).trans (kN.below (B := wr.heap.size) (hw6).size (fun k hk e => by omega))
              clear kN
              go_upto_region 30 with (fail)
              generalize (((w6.setCell ⟨w4.heap.size, 3, none⟩ (.bool true)).setCell ⟨w4.heap.size, 5, none⟩ (.int .i64 x2.k)).setCell ⟨w4.heap.size, 7, none⟩ (.int .i64 x2.z)) = wu at *
              clear fr5 p0 p1 p2 p3 p4 p5 p6 p7 p8 y6
              obtain ⟨vd, hvd⟩ : ∃ vd, vd = verd false true (b) (x2.k) (0) (x2.z) := ⟨_, rfl⟩
              have HVD := Lib.hid (verdictR_any ⟨⟨p⟩⟩ b false true (b) (x2.k) (0) (x2.z) 0 wu)
              rw [← hvd] at HVD
              have HCV : Hid (chgV T mine theirs p = ⟨⟨⟨p⟩⟩, b, false, true, b, x2.k, 0, x2.z, vd⟩) := Lib.hid (by
                unfold chgV
                rw [← HBV.out, HFM.out, HFT.out, hvd]
                rfl)
              have p0 := yC.cell 0
              have p1 := yC.cell 1
              have p2 := yC.cell 2
              have p3 := yC.cell 3
              have p4 := yC.cell 4
              have p5 := yC.cell 5
              have p6 := yC.cell 6
              have p7 := yC.cell 7
              have p8 := yC.cell 8
              simp only [List.getElem?_toArray, List.getElem?_cons_zero, List.getElem?_cons_succ] at p0 p1 p2 p3 p4 p5 p6 p7 p8
              clear hvd HFM HFT
              go_wp2_with fail
              refine HVD.out.mono ?_
              rintro e w8 ⟨rfl, hb8⟩
              have hw8 := hw7u.trans (hb8.mono hw7u.size)
              have y8 := yC.below hb8
              have fr8 := fun o => y8.frozen o
              have ho8 := (hO.below (hw7u)).below hb8
              have k9 : Fr (fun z => z = w4.heap.size) w8 (w8.setCell ⟨w4.heap.size, 8, none⟩ (.int .i64 vd)) := (Fr.refl (fun z => z = w4.heap.size) w8).setAt w4.heap.size _ rfl _
              have y9 := y8.set_ 8 (.int .i64 vd)
              simp only [List.setIfInBounds_toArray, List.set_cons_zero, List.set_cons_succ] at y9
              have ho9 := ho8.fr k9 (fun g hg e => by have := (ho8.lt g hg); have := (hO.lt g hg).2; omega)
              have hw9 : Below wr.heap.size wr (w8.setCell ⟨w4.heap.size, 8, none⟩ (.int .i64 vd)) := hw8.trans (k9.below (B := wr.heap.size) hw8.size (fun k hk e => by omega))
              have q0 := y8.cell 0
              have q1 := y8.cell 1
              have q2 := y8.cell 2
              have q3 := y8.cell 3
              have q4 := y8.cell 4
              have q5 := y8.cell 5
              have q6 := y8.cell 6
              have q7 := y8.cell 7
              have q8 := y8.cell 8
              simp only [List.getElem?_toArray, List.getElem?_cons_zero, List.getElem?_cons_succ] at q0 q1 q2 q3 q4 q5 q6 q7 q8
              clear HVD p0 p1 p2 p3 p4 p5 p6 p7 p8 yC
              go_upto_region 31 with (fail)
              generalize w8.setCell ⟨w4.heap.size, 8, none⟩ (.int .i64 vd) = w9 at *
              clear q0 q1 q2 q3 q4 q5 q6 q7 q8 fr8 k9 y8 ho8
              have q0 := y9.cell 0
              have q1 := y9.cell 1
              have q2 := y9.cell 2
              have q3 := y9.cell 3
              have q4 := y9.cell 4
              have q5 := y9.cell 5
              have q6 := y9.cell 6
              have q7 := y9.cell 7
              have q8 := y9.cell 8
              simp only [List.getElem?_toArray, List.getElem?_cons_zero, List.getElem?_cons_succ] at q0 q1 q2 q3 q4 q5 q6 q7 q8
              have HOA := Lib.hid (ho9.below ((Below.refl _ w9).alloc (Nat.le_refl _) (.cells #[.string ⟨⟨p⟩⟩, .int .i64 b, .bool false, .bool true, .int .i64 b, .int .i64 x2.k, .int .i64 0, .int .i64 x2.z, .int .i64 vd] 47)))
              have HRA : Hid (Rd (w9.alloc (.cells #[.string ⟨⟨p⟩⟩, .int .i64 b, .bool false, .bool true, .int .i64 b, .int .i64 x2.k, .int .i64 0, .int .i64 x2.z, .int .i64 vd] 47)) (fun _ => True) 9 (some ⟨w9.heap.size, 0, none⟩) 1 (CV.cells ⟨⟨⟨p⟩⟩, b, false, true, b, x2.k, 0, x2.z, vd⟩)) := (Rd.lit (w := w9) (t := 47) (size := 9) (n := 1) (xs := CV.cells ⟨⟨⟨p⟩⟩, b, false, true, b, x2.k, 0, x2.z, vd⟩) rfl rfl rfl).mono (fun _ _ _ => trivial)
              have hs9 : w7.heap.size ≤ (w9.alloc (.cells #[.string ⟨⟨p⟩⟩, .int .i64 b, .bool false, .bool true, .int .i64 b, .int .i64 x2.k, .int .i64 0, .int .i64 x2.z, .int .i64 vd] 47)).heap.size := by have := hb.size; have := hw9.size; simp; omega
              have hba9 := hw9.alloc hw9.size (.cells #[.string ⟨⟨p⟩⟩, .int .i64 b, .bool false, .bool true, .int .i64 b, .int .i64 x2.k, .int .i64 0, .int .i64 x2.z, .int .i64 vd] 47)
              clear ho9 y9
              go_wp2_with (at_builtin; refine wpList_append_ch rfl (.tmp 142) (.tmp 144) (t := 42) rfl rfl rfl HOA.out rfl HRA.out (by omega) hs9 ?_; intro A10 c10 w10 hO10 hb10)
              have hbb : Below w7.heap.size w7 w10 := (hb.trans (hba9.mono hb.size)).trans hb10
              have HN := Lib.hid HS.out
              rw [HCV.out] at HN
              go_roundw
              case rel => exact ⟨i + 1, A10, c10, cl ++ [⟨⟨⟨p⟩⟩, b, false, true, b, x2.k, 0, x2.z, vd⟩], hlt, by go_num, by simp, Lib.hid HN.out.symm, by simp; omega, hO10, hbb⟩
              case measure => simp [intOf]; omega
          · obtain ⟨hj1, _⟩ := idxR_get him
            have HFM : Hid (findRv ⟨⟨p⟩⟩ mine = some mine[j1]) := Lib.hid (by unfold findRv; rw [him]; simp [hj1])
            obtain ⟨b1, off1, hA1, hbl1, _, d1, _, _, d4⟩ := HM.out.at_ hj1
            have hwK := hwr.trans (hw5b.mono hwr.size)
            have hn1 : ¬ b1 = w4.heap.size := by have := hwr.size; omega
            have hn1' : ¬ w4.heap.size = b1 := fun e => hn1 e.symm
            replace d1 := (hwK.cell hbl1).trans d1
            replace d4 := (hwK.cell hbl1).trans d4
            obtain ⟨x1, hx1⟩ : ∃ x1, x1 = mine[j1] := ⟨_, rfl⟩
            rw [← hx1] at d1 d4 HFM
            have hv1 : idxV (some j1) = (j1 : Int) := rfl
            rw [hv1]
            have hj10 : decide ((0 : Int) ≤ (j1 : Int)) = true := decide_eq_true (by omega)
            subst hA1
            clear him hv1 hx1
            have fr5 := fun o => y5.frozen o
            have p0 := y5.cell 0
            have p1 := y5.cell 1
            have p2 := y5.cell 2
            have p3 := y5.cell 3
            have p4 := y5.cell 4
            have p5 := y5.cell 5
            have p6 := y5.cell 6
            have p7 := y5.cell 7
            have p8 := y5.cell 8
            simp only [List.getElem?_toArray, List.getElem?_cons_zero, List.getElem?_cons_succ] at p0 p1 p2 p3 p4 p5 p6 p7 p8
            have kN : Fr (fun z => z = w4.heap.size) w5b (((w5b.setCell ⟨w4.heap.size, 2, none⟩ (.bool true)).setCell ⟨w4.heap.size, 4, none⟩ (.int .i64 x1.k)).setCell ⟨w4.heap.size, 6, none⟩ (.int .i64 x1.z)) := ((((Fr.refl (fun z => z = w4.heap.size) w5b).setAt w4.heap.size _ rfl _).setAt w4.heap.size _ rfl _).setAt w4.heap.size _ rfl _)
            have yA := (((y5.set_ 2 (.bool true)).set_ 4 (.int .i64 x1.k)).set_ 6 (.int .i64 x1.z))
            simp only [List.setIfInBounds_toArray, List.set_cons_zero, List.set_cons_succ] at yA
            have hw5n : Below wr.heap.size wr (((w5b.setCell ⟨w4.heap.size, 2, none⟩ (.bool true)).setCell ⟨w4.heap.size, 4, none⟩ (.int .i64 x1.k)).setCell ⟨w4.heap.size, 6, none⟩ (.int .i64 x1.z)) := (hw5b).trans (kN.below (B := wr.heap.size) (hw5b).size (fun k hk e => by omega))
            clear kN
            go_upto_region 25 with (fail)
            generalize (((w5b.setCell ⟨w4.heap.size, 2, none⟩ (.bool true)).setCell ⟨w4.heap.size, 4, none⟩ (.int .i64 x1.k)).setCell ⟨w4.heap.size, 6, none⟩ (.int .i64 x1.z)) = wn at *
            clear fr5 p0 p1 p2 p3 p4 p5 p6 p7 p8 y5
            clear d1 d4
            have HF2 := Lib.hid (refFind25_any D d theirs ⟨⟨p⟩⟩ wn (HT.out.below (hwr.trans ((hw5n).mono hwr.size))))
            go_wp2_with fail
            refine HF2.out.mono ?_
            rintro e w6 ⟨rfl, hb6⟩
            have hw6 := (hw5n).trans (hb6.mono (hw5n).size)
            have y6 := yA.below hb6
            have y7l := y6.lt
            clear HF2 hb6 yA
            rcases hit : idxR ⟨⟨p⟩⟩ theirs with _ | j2
            · have HFT : Hid (findRv ⟨⟨p⟩⟩ theirs = none) := Lib.hid (by unfold findRv; rw [hit]; rfl)
              have hv2 : idxV none = -1 := rfl
              rw [hv2]
              have yC := y6
              clear y6 hit hv2
              obtain ⟨vd, hvd⟩ : ∃ vd, vd = verd true false (x1.k) (b) (x1.z) (0) := ⟨_, rfl⟩
              have HVD := Lib.hid (verdictR_any ⟨⟨p⟩⟩ b true false (x1.k) (b) (x1.z) (0) 0 w6)
              rw [← hvd] at HVD
              have HCV : Hid (chgV T mine theirs p = ⟨⟨⟨p⟩⟩, b, true, false, x1.k, b, x1.z, 0, vd⟩) := Lib.hid (by
                unfold chgV
                rw [← HBV.out, HFM.out, HFT.out, hvd]
                rfl)
              have p0 := yC.cell 0
              have p1 := yC.cell 1
              have p2 := yC.cell 2
              have p3 := yC.cell 3
              have p4 := yC.cell 4
              have p5 := yC.cell 5
              have p6 := yC.cell 6
              have p7 := yC.cell 7
              have p8 := yC.cell 8
              simp only [List.getElem?_toArray, List.getElem?_cons_zero, List.getElem?_cons_succ] at p0 p1 p2 p3 p4 p5 p6 p7 p8
              clear hvd HFM HFT
              go_wp2_with fail
              refine HVD.out.mono ?_
              rintro e w8 ⟨rfl, hb8⟩
              have hw8 := hw6.trans (hb8.mono hw6.size)
              have y8 := yC.below hb8
              have fr8 := fun o => y8.frozen o
              have ho8 := (hO.below (hw6)).below hb8
              have k9 : Fr (fun z => z = w4.heap.size) w8 (w8.setCell ⟨w4.heap.size, 8, none⟩ (.int .i64 vd)) := (Fr.refl (fun z => z = w4.heap.size) w8).setAt w4.heap.size _ rfl _
              have y9 := y8.set_ 8 (.int .i64 vd)
              simp only [List.setIfInBounds_toArray, List.set_cons_zero, List.set_cons_succ] at y9
              have ho9 := ho8.fr k9 (fun g hg e => by have := (ho8.lt g hg); have := (hO.lt g hg).2; omega)
              have hw9 : Below wr.heap.size wr (w8.setCell ⟨w4.heap.size, 8, none⟩ (.int .i64 vd)) := hw8.trans (k9.below (B := wr.heap.size) hw8.size (fun k hk e => by omega))
              have q0 := y8.cell 0
              have q1 := y8.cell 1
              have q2 := y8.cell 2
              have q3 := y8.cell 3
              have q4 := y8.cell 4
              have q5 := y8.cell 5
              have q6 := y8.cell 6
              have q7 := y8.cell 7
              have q8 := y8.cell 8
              simp only [List.getElem?_toArray, List.getElem?_cons_zero, List.getElem?_cons_succ] at q0 q1 q2 q3 q4 q5 q6 q7 q8
              clear HVD p0 p1 p2 p3 p4 p5 p6 p7 p8 yC
              go_upto_region 31 with (fail)
              generalize w8.setCell ⟨w4.heap.size, 8, none⟩ (.int .i64 vd) = w9 at *
              clear q0 q1 q2 q3 q4 q5 q6 q7 q8 fr8 k9 y8 ho8
              have q0 := y9.cell 0
              have q1 := y9.cell 1
              have q2 := y9.cell 2
              have q3 := y9.cell 3
              have q4 := y9.cell 4
              have q5 := y9.cell 5
              have q6 := y9.cell 6
              have q7 := y9.cell 7
              have q8 := y9.cell 8
              simp only [List.getElem?_toArray, List.getElem?_cons_zero, List.getElem?_cons_succ] at q0 q1 q2 q3 q4 q5 q6 q7 q8
              have HOA := Lib.hid (ho9.below ((Below.refl _ w9).alloc (Nat.le_refl _) (.cells #[.string ⟨⟨p⟩⟩, .int .i64 b, .bool true, .bool false, .int .i64 x1.k, .int .i64 b, .int .i64 x1.z, .int .i64 0, .int .i64 vd] 47)))
              have HRA : Hid (Rd (w9.alloc (.cells #[.string ⟨⟨p⟩⟩, .int .i64 b, .bool true, .bool false, .int .i64 x1.k, .int .i64 b, .int .i64 x1.z, .int .i64 0, .int .i64 vd] 47)) (fun _ => True) 9 (some ⟨w9.heap.size, 0, none⟩) 1 (CV.cells ⟨⟨⟨p⟩⟩, b, true, false, x1.k, b, x1.z, 0, vd⟩)) := (Rd.lit (w := w9) (t := 47) (size := 9) (n := 1) (xs := CV.cells ⟨⟨⟨p⟩⟩, b, true, false, x1.k, b, x1.z, 0, vd⟩) rfl rfl rfl).mono (fun _ _ _ => trivial)
              have hs9 : w7.heap.size ≤ (w9.alloc (.cells #[.string ⟨⟨p⟩⟩, .int .i64 b, .bool true, .bool false, .int .i64 x1.k, .int .i64 b, .int .i64 x1.z, .int .i64 0, .int .i64 vd] 47)).heap.size := by have := hb.size; have := hw9.size; simp; omega
              have hba9 := hw9.alloc hw9.size (.cells #[.string ⟨⟨p⟩⟩, .int .i64 b, .bool true, .bool false, .int .i64 x1.k, .int .i64 b, .int .i64 x1.z, .int .i64 0, .int .i64 vd] 47)
              clear ho9 y9
              go_wp2_with (at_builtin; refine wpList_append_ch rfl (.tmp 142) (.tmp 144) (t := 42) rfl rfl rfl HOA.out rfl HRA.out (by omega) hs9 ?_; intro A10 c10 w10 hO10 hb10)
              have hbb : Below w7.heap.size w7 w10 := (hb.trans (hba9.mono hb.size)).trans hb10
              have HN := Lib.hid HS.out
              rw [HCV.out] at HN
              go_roundw
              case rel => exact ⟨i + 1, A10, c10, cl ++ [⟨⟨⟨p⟩⟩, b, true, false, x1.k, b, x1.z, 0, vd⟩], hlt, by go_num, by simp, Lib.hid HN.out.symm, by simp; omega, hO10, hbb⟩
              case measure => simp [intOf]; omega
            · obtain ⟨hj2, _⟩ := idxR_get hit
              have HFT : Hid (findRv ⟨⟨p⟩⟩ theirs = some theirs[j2]) := Lib.hid (by unfold findRv; rw [hit]; simp [hj2])
              obtain ⟨b2, off2, hA2, hbl2, _, d1, _, _, d4⟩ := HT.out.at_ hj2
              have hwK := hwr.trans (hw6.mono hwr.size)
              have hn1 : ¬ b2 = w4.heap.size := by have := hwr.size; omega
              have hn1' : ¬ w4.heap.size = b2 := fun e => hn1 e.symm
              replace d1 := (hwK.cell hbl2).trans d1
              replace d4 := (hwK.cell hbl2).trans d4
              obtain ⟨x2, hx2⟩ : ∃ x2, x2 = theirs[j2] := ⟨_, rfl⟩
              rw [← hx2] at d1 d4 HFT
              have hv2 : idxV (some j2) = (j2 : Int) := rfl
              rw [hv2]
              have hj20 : decide ((0 : Int) ≤ (j2 : Int)) = true := decide_eq_true (by omega)
              subst hA2
              clear hit hv2 hx2
              have fr5 := fun o => y6.frozen o
              have p0 := y6.cell 0
              have p1 := y6.cell 1
              have p2 := y6.cell 2
              have p3 := y6.cell 3
              have p4 := y6.cell 4
              have p5 := y6.cell 5
              have p6 := y6.cell 6
              have p7 := y6.cell 7
              have p8 := y6.cell 8
              simp only [List.getElem?_toArray, List.getElem?_cons_zero, List.getElem?_cons_succ] at p0 p1 p2 p3 p4 p5 p6 p7 p8
              have kN : Fr (fun z => z = w4.heap.size) w6 (((w6.setCell ⟨w4.heap.size, 3, none⟩ (.bool true)).setCell ⟨w4.heap.size, 5, none⟩ (.int .i64 x2.k)).setCell ⟨w4.heap.size, 7, none⟩ (.int .i64 x2.z)) := ((((Fr.refl (fun z => z = w4.heap.size) w6).setAt w4.heap.size _ rfl _).setAt w4.heap.size _ rfl _).setAt w4.heap.size _ rfl _)
              have yC := (((y6.set_ 3 (.bool true)).set_ 5 (.int .i64 x2.k)).set_ 7 (.int .i64 x2.z))
              simp only [List.setIfInBounds_toArray, List.set_cons_zero, List.set_cons_succ] at yC
              have hw7u : Below wr.heap.size wr (((w6.setCell ⟨w4.heap.size, 3, none⟩ (.bool true)).setCell ⟨w4.heap.size, 5, none⟩ (.int .i64 x2.k)).setCell ⟨w4.heap.size, 7, none⟩ (.int .i64 x2.z)) := (hw6).trans (kN.below (B := wr.heap.size) (hw6).size (fun k hk e => by omega))
              clear kN
              go_upto_region 30 with (fail)
              generalize (((w6.setCell ⟨w4.heap.size, 3, none⟩ (.bool true)).setCell ⟨w4.heap.size, 5, none⟩ (.int .i64 x2.k)).setCell ⟨w4.heap.size, 7, none⟩ (.int .i64 x2.z)) = wu at *
              clear fr5 p0 p1 p2 p3 p4 p5 p6 p7 p8 y6
              obtain ⟨vd, hvd⟩ : ∃ vd, vd = verd true true (x1.k) (x2.k) (x1.z) (x2.z) := ⟨_, rfl⟩
              have HVD := Lib.hid (verdictR_any ⟨⟨p⟩⟩ b true true (x1.k) (x2.k) (x1.z) (x2.z) 0 wu)
              rw [← hvd] at HVD
              have HCV : Hid (chgV T mine theirs p = ⟨⟨⟨p⟩⟩, b, true, true, x1.k, x2.k, x1.z, x2.z, vd⟩) := Lib.hid (by
                unfold chgV
                rw [← HBV.out, HFM.out, HFT.out, hvd]
                rfl)
              have p0 := yC.cell 0
              have p1 := yC.cell 1
              have p2 := yC.cell 2
              have p3 := yC.cell 3
              have p4 := yC.cell 4
              have p5 := yC.cell 5
              have p6 := yC.cell 6
              have p7 := yC.cell 7
              have p8 := yC.cell 8
              simp only [List.getElem?_toArray, List.getElem?_cons_zero, List.getElem?_cons_succ] at p0 p1 p2 p3 p4 p5 p6 p7 p8
              clear hvd HFM HFT
              go_wp2_with fail
              refine HVD.out.mono ?_
              rintro e w8 ⟨rfl, hb8⟩
              have hw8 := hw7u.trans (hb8.mono hw7u.size)
              have y8 := yC.below hb8
              have fr8 := fun o => y8.frozen o
              have ho8 := (hO.below (hw7u)).below hb8
              have k9 : Fr (fun z => z = w4.heap.size) w8 (w8.setCell ⟨w4.heap.size, 8, none⟩ (.int .i64 vd)) := (Fr.refl (fun z => z = w4.heap.size) w8).setAt w4.heap.size _ rfl _
              have y9 := y8.set_ 8 (.int .i64 vd)
              simp only [List.setIfInBounds_toArray, List.set_cons_zero, List.set_cons_succ] at y9
              have ho9 := ho8.fr k9 (fun g hg e => by have := (ho8.lt g hg); have := (hO.lt g hg).2; omega)
              have hw9 : Below wr.heap.size wr (w8.setCell ⟨w4.heap.size, 8, none⟩ (.int .i64 vd)) := hw8.trans (k9.below (B := wr.heap.size) hw8.size (fun k hk e => by omega))
              have q0 := y8.cell 0
              have q1 := y8.cell 1
              have q2 := y8.cell 2
              have q3 := y8.cell 3
              have q4 := y8.cell 4
              have q5 := y8.cell 5
              have q6 := y8.cell 6
              have q7 := y8.cell 7
              have q8 := y8.cell 8
              simp only [List.getElem?_toArray, List.getElem?_cons_zero, List.getElem?_cons_succ] at q0 q1 q2 q3 q4 q5 q6 q7 q8
              clear HVD p0 p1 p2 p3 p4 p5 p6 p7 p8 yC
              go_upto_region 31 with (fail)
              generalize w8.setCell ⟨w4.heap.size, 8, none⟩ (.int .i64 vd) = w9 at *
              clear q0 q1 q2 q3 q4 q5 q6 q7 q8 fr8 k9 y8 ho8
              have q0 := y9.cell 0
              have q1 := y9.cell 1
              have q2 := y9.cell 2
              have q3 := y9.cell 3
              have q4 := y9.cell 4
              have q5 := y9.cell 5
              have q6 := y9.cell 6
              have q7 := y9.cell 7
              have q8 := y9.cell 8
              simp only [List.getElem?_toArray, List.getElem?_cons_zero, List.getElem?_cons_succ] at q0 q1 q2 q3 q4 q5 q6 q7 q8
              have HOA := Lib.hid (ho9.below ((Below.refl _ w9).alloc (Nat.le_refl _) (.cells #[.string ⟨⟨p⟩⟩, .int .i64 b, .bool true, .bool true, .int .i64 x1.k, .int .i64 x2.k, .int .i64 x1.z, .int .i64 x2.z, .int .i64 vd] 47)))
              have HRA : Hid (Rd (w9.alloc (.cells #[.string ⟨⟨p⟩⟩, .int .i64 b, .bool true, .bool true, .int .i64 x1.k, .int .i64 x2.k, .int .i64 x1.z, .int .i64 x2.z, .int .i64 vd] 47)) (fun _ => True) 9 (some ⟨w9.heap.size, 0, none⟩) 1 (CV.cells ⟨⟨⟨p⟩⟩, b, true, true, x1.k, x2.k, x1.z, x2.z, vd⟩)) := (Rd.lit (w := w9) (t := 47) (size := 9) (n := 1) (xs := CV.cells ⟨⟨⟨p⟩⟩, b, true, true, x1.k, x2.k, x1.z, x2.z, vd⟩) rfl rfl rfl).mono (fun _ _ _ => trivial)
              have hs9 : w7.heap.size ≤ (w9.alloc (.cells #[.string ⟨⟨p⟩⟩, .int .i64 b, .bool true, .bool true, .int .i64 x1.k, .int .i64 x2.k, .int .i64 x1.z, .int .i64 x2.z, .int .i64 vd] 47)).heap.size := by have := hb.size; have := hw9.size; simp; omega
              have hba9 := hw9.alloc hw9.size (.cells #[.string ⟨⟨p⟩⟩, .int .i64 b, .bool true, .bool true, .int .i64 x1.k, .int .i64 x2.k, .int .i64 x1.z, .int .i64 x2.z, .int .i64 vd] 47)
              clear ho9 y9
              go_wp2_with (at_builtin; refine wpList_append_ch rfl (.tmp 142) (.tmp 144) (t := 42) rfl rfl rfl HOA.out rfl HRA.out (by omega) hs9 ?_; intro A10 c10 w10 hO10 hb10)
              have hbb : Below w7.heap.size w7 w10 := (hb.trans (hba9.mono hb.size)).trans hb10
              have HN := Lib.hid HS.out
              rw [HCV.out] at HN
              go_roundw
              case rel => exact ⟨i + 1, A10, c10, cl ++ [⟨⟨⟨p⟩⟩, b, true, true, x1.k, x2.k, x1.z, x2.z, vd⟩], hlt, by go_num, by simp, Lib.hid HN.out.symm, by simp; omega, hO10, hbb⟩
              case measure => simp [intOf]; omega
        · have e : i = P.length := by omega
          subst e
          have HF : Hid (cl = G) := Lib.hid (by rw [hcl.out, List.take_length, HG.out])
          clear hcl
          go_wp2_with fail
          go_ret
          exact ⟨⟨A1, c', cl, rfl, HF.out, ⟨hO.1, hO.2, hO.3, hO.4, fun a ha => by
            obtain ⟨g, off, cur, e1, h2, h3⟩ := hO.5 a ha
            exact ⟨g, off, cur, e1, Nat.le_trans hw7.size h2, h3⟩⟩⟩, hwr⟩

end Go.Proofs.YtkeledbgmpienaaGreat
