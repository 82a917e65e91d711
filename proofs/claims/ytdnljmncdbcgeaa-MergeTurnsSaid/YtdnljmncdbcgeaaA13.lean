/- tenderref22: Older. -/
import Derived.Test.YtdnljmncdbcgeaaA12
import Derived.Laws.StructEq

namespace Go.Proofs.Ytdnljmncdbcgeaa
open Go.RowKit Go.Maps

/-- append of texts -/
theorem wpList_append_sts {w : World} {ops : Array Oper} {rest : List Oper} {o : Oper} {a : Act} {Q : Exit → Act → World → Prop} (hgd : o.guard = none) (s x : Operand) {t : TypeId} (hu : Try.prog.underlying t = some (.slice 9))
    (ho : o.op = .call { callee := .builtin .append, args := #[s, x], argTypes := #[t, t] })
    {base : Nat} {A : Option Addr} {c n : Nat} {L : List (List UInt8)} {M : List (List UInt8)} {B : Option Addr} {d m : Nat} {Z : Nat → Prop} (hs : a.eval s = .slice A n c) (hn : n = L.length) (hown : w.ownsRow base 9 1 (.slice A n c) n (L.map stv)) (hx : a.eval x = .slice B m d) (hr : Rd w Z 1 B m (M.map stv))
    (hsum : L.length + M.length ≤ 1099511627776) (hbase : base ≤ w.heap.size)
    (h : ∀ (A' : Option Addr) (c' : Nat) (w' : World), w'.ownsRow base 9 1 (.slice A' (L ++ M).length c') (L ++ M).length ((L ++ M).map stv) → Below base w w' → w.grownBy w' (Value.slice A n c).ownBlock → ((Value.slice A' (L ++ M).length c').ownBlock = (Value.slice A n c).ownBlock ∨ (Value.slice A' (L ++ M).length c').ownBlock = some w.heap.size) → wpList Try.prog ops Q rest (a.put o.dst (.slice A' (L ++ M).length c')) w') : wpList Try.prog ops Q (o :: rest) a w := by
  obtain ⟨i0, hi0, hz0, hz1, hz2⟩ := info_parts str_infoB
  have hm : m = M.length := by have := hr.1; simp at this; omega
  subst hn hm
  refine wpList_append_any w hgd s x _ ho base 9 i0 _ 1 16 hu hi0 hz0 hz1 hz2 rfl (by omega) (.slice A L.length c) L.length (L.map stv) hs hown Z B M.length d (M.map stv) hx hr (fun u hu => by obtain ⟨y, _, rfl⟩ := List.mem_map.1 hu; rfl) (by simp only [maxLen]; omega) (by omega) hbase ?_
  intro v' w' h1 h2 h3
  rw [← List.length_append, ← List.map_append] at h1
  obtain ⟨A', c', rfl, _⟩ := own_form h1
  exact h A' c' w' h1 (grown_below h2 hbase (fun g e => (hown.lt g e).1)) h2 h3
theorem own_rd {w : World} {base : Nat} {A : Option Addr} {c : Nat} {l : List (List UInt8)} (h : w.ownsRow base 9 1 (.slice A l.length c) l.length (l.map stv)) : Rd w (fun b => ablk A = some b) 1 A l.length (l.map stv) := Rd.of_own h (fun _ hb _ => hb)

set_option maxRecDepth 100000 in
set_option maxHeartbeats 4000000 in
theorem refOlder_any (A : Option Addr) (c : Nat) (M : List EV) (s : Int) (B : Option Addr) (d : Nat) (l : List RV) (w : World) (h : EsR w A M) (hr : RwR w B l) (hM : ∀ x ∈ M, x.p.size ≤ 1048576) (hst : SortR (M.map EV.pl)) :
    Calls Try.prog 30 #[.agg #[.int .u64 s, .slice A M.length c], .slice B l.length d] w fun e w' => OldOwn w' w.heap.size e (fetchS (M.map EV.pl) (l.map RV.pv)) ((keysR (M.map EV.pl)).filter fun p => decide (bestV (l.map RV.pv) p < verP (M.map EV.pl) p)) ∧ Below w.heap.size w w' := by
  have hw1 : Below w.heap.size w (w.alloc (.cells #[.int .u64 s, .slice A M.length c] 33)) := (by repeat (first | exact Below.refl _ _ | refine Below.alloc ?_ (by simp) _ | refine Below.setCell ?_ (by simp) _ | refine Below.drew ?_))
  have x1 := Blk.new w 33 #[.int .u64 s, .slice A M.length c]
  have HE := Lib.hid (h.below hw1)
  have HR := Lib.hid (hr.below hw1)
  have HMP := Lib.hid hM
  have hll := hr.len
  have hMl := h.len
  obtain ⟨R, hRR⟩ : ∃ R, R = l.map RV.pv := ⟨_, rfl⟩
  obtain ⟨T, hTT⟩ : ∃ T, T = M.map EV.pl := ⟨_, rfl⟩
  rw [← hRR, ← hTT]
  have hTl : T.length = M.length := by rw [hTT]; simp
  have HRR := Lib.hid hRR
  have HTT := Lib.hid hTT.symm
  have HSR := Lib.hid hst
  rw [← hTT] at HSR
  clear h hr hM hRR hTT hst
  go_enter Try.func30, Try.ntmps30
  go_wp2_with fail
  generalize w.alloc (.cells #[.int .u64 s, .slice A M.length c] 33) = w1 at *
  have HBK : Hid (∀ W, Below w1.heap.size w1 W → W.cell? ⟨w.heap.size, 0, none⟩ = some (.int .u64 s) ∧ W.cell? ⟨w.heap.size, 1, none⟩ = some (.slice A M.length c)) := Lib.hid (fun W hW => ⟨(x1.below hW).cell 0, (x1.below hW).cell 1⟩)
  clear x1
  go_loopw [6, 8] (fun fv iv wr => ∃ (i : Nat) (A' : Option Addr) (c' : Nat) (F : List (List UInt8)), i ≤ l.length ∧ iv = .int .i64 (i : Int) ∧ fv = .slice A' F.length c' ∧ Hid (sortedS F) ∧ Hid (∀ q, q ∈ F ↔ (q ∈ (R.take i).map (·.1) ∧ verP T q < bestV R q)) ∧ F.length ≤ i ∧ wr.ownsRow w1.heap.size 9 1 (.slice A' F.length c') F.length (F.map stv) ∧ Below w1.heap.size w1 wr) (fun _ iv _ => l.length - (intOf iv).toNat)
  case atStart => exact ⟨0, none, 0, [], Nat.zero_le _, rfl, rfl, List.Pairwise.nil, by show ∀ q, _; simp, Nat.le_refl _, World.ownsRow_nil _ _ _ _, Below.refl _ _⟩
  case round =>
    obtain ⟨i, A', c', F, hi, rfl, rfl, hFs, hFm, hFl, hown, hb⟩ := hrel
    by_cases hlt : i < l.length
    · obtain ⟨b, off, hA, hbb, c0, c1, c2, c3, c4⟩ := (HR.out.below hb).at_ hlt
      have hxo := (HR.out.ok _ (List.getElem_mem hlt)).1
      have hsn : (R.take (i + 1)).map (·.1) = (R.take i).map (·.1) ++ [tl l[i].p] := by
        have : R.take (i + 1) = R.take i ++ [l[i].pv] := by rw [HRR.out, ← List.map_take, ← List.map_take, pv_snoc l i hlt]
        rw [this, List.map_append]
        rfl
      obtain ⟨x, hx⟩ : ∃ x, x = l[i] := ⟨_, rfl⟩
      rw [← hx] at c0 hxo hsn
      subst hA
      have HSN := Lib.hid hsn
      have hbr := hb
      have hbst : bestV (l.map RV.pv) (tl x.p) = bestV R (tl x.p) := by rw [HRR.out]
      clear c1 c2 c3 c4 hx hsn
      go_upto_region 6 with (fail)
      refine wp_region_p [(0, true), (1, true), (3, true), (4, true), (2, false), (5, false), (6, true), (7, true)] (fun W => Below wr.heap.size wr W) (by kernel_rfl) (by kernel_rfl) ?_
      simp only [List.map_cons, List.map_nil, List.filterMap_cons, List.filterMap_nil, List.getElem?_cons_zero, List.getElem?_cons_succ, List.length_cons, List.length_nil, Nat.zero_add, Nat.reduceAdd, List.drop_succ_cons, List.drop_zero]
      refine mx_move _ (by kernel_rfl) rfl ⟨_, (by ((try simp [go_sem]); (try rfl); done)), _, (by (simp only [Act.put, List.setIfInBounds_toArray, List.set_cons_zero, List.set_cons_succ]; rfl)), ?_⟩
      refine mx_move _ (by kernel_rfl) rfl ⟨_, (by ((try simp [go_sem]); (try rfl); done)), _, (by (simp only [Act.put, List.setIfInBounds_toArray, List.set_cons_zero, List.set_cons_succ]; rfl)), ?_⟩
      refine mx_val (by kernel_rfl) ⟨_, (by (intro w' hC; (have ⟨q0, q1⟩ := HBK.out _ (hb.trans (hC.mono hb.size))); clear hC; (try go_simp); (try with_reducible rfl); done)), _, (by (simp only [Act.put, List.setIfInBounds_toArray, List.set_cons_zero, List.set_cons_succ]; rfl)), ?_⟩
      refine mx_move _ (by kernel_rfl) rfl ⟨_, (by ((try simp [go_sem]); (try rfl); done)), _, (by (simp only [Act.put, List.setIfInBounds_toArray, List.set_cons_zero, List.set_cons_succ]; rfl)), ?_⟩
      refine mx_call ((Below.refl _ _).drew) (by kernel_rfl) ?_ (refBest_any _ d l x.p wr.drew (HR.out.below (hbr.trans ((Below.refl _ _).drew)))) ?_
      · (go_simp; done)
      rintro e wa ⟨rfl, hba⟩
      have hca : Below wr.heap.size wr wa := ((Below.refl _ _).drew).trans hba
      refine ⟨_, rfl, _, (by (simp only [Act.put, List.setIfInBounds_toArray, List.set_cons_zero, List.set_cons_succ]; rfl)), ?_⟩
      refine mx_call (hca) (by kernel_rfl) ?_ (refGet22_any A c M s x.p wa (HE.out.below (hb.trans (hca.mono hb.size)))) ?_
      · (go_simp; done)
      rintro e wb ⟨⟨o, rfl, ho⟩, hbb2⟩
      have hcb : Below wr.heap.size wr wb := hca.trans (hbb2.mono hca.size)
      have hfd := fun W => (show (Instr.field 28 (.agg #[.string o.p, .int .u64 o.v, .int .i64 o.k, .slice o.x.A o.x.l.length o.x.c]) 1).run Try.prog W = .ok (.int .u64 o.v) W by kernel_rfl)
      have hov : Hid (o.v = verP T (tl x.p)) := Lib.hid (by rw [ho.out, find_ver, HTT.out]; rfl)
      clear hba hbb2
      refine ⟨_, rfl, _, (by (simp only [Act.put, List.setIfInBounds_toArray, List.set_cons_zero, List.set_cons_succ]; rfl)), ?_⟩
      refine mx_val (by kernel_rfl) ⟨_, (by (intro w' hC; (have q := hfd w'); clear hC; (try go_simp); (try with_reducible rfl); done)), _, (by (simp only [Act.put, List.setIfInBounds_toArray, List.set_cons_zero, List.set_cons_succ]; rfl)), ?_⟩
      refine mx_val (by kernel_rfl) ⟨_, (by (intro w' hC; clear hC; (try go_simp); (try with_reducible rfl); done)), _, (by (simp only [Act.put, List.setIfInBounds_toArray, List.set_cons_zero, List.set_cons_succ]; rfl)), ?_⟩
      refine mx_end hcb ?_
      rw [hbst]
      have hw2 := hb.trans (hcb.mono hb.size)
      have ho2 := own_below hown hcb
      obtain ⟨bV, hbV⟩ : ∃ bV, bV = bestV R (tl x.p) := ⟨_, rfl⟩
      rw [← hbV]
      clear hown hca hcb hfd hbr hbst c0
      by_cases hle : bV ≤ o.v
      · have hd : decide (bV ≤ o.v) = true := decide_eq_true hle
        have HFM : Hid (∀ q, q ∈ F ↔ (q ∈ (R.take (i + 1)).map (·.1) ∧ verP T q < bestV R q)) := Lib.hid (fun q => by
          rw [hFm.out, HSN.out, List.mem_append, List.mem_singleton]
          constructor
          · rintro ⟨h1, h2⟩; exact ⟨.inl h1, h2⟩
          · rintro ⟨h1 | h1, h2⟩
            · exact ⟨h1, h2⟩
            · subst h1
              rw [← hbV, ← hov.out] at h2
              omega)
        clear hbV hov hFm
        go_wp2_with fail
        go_roundw
        case rel => exact ⟨i + 1, A', c', F, hlt, by go_num, rfl, hFs, HFM, by omega, ho2, hw2⟩
        case measure => simp [intOf]; omega
      · have hd : decide (bV ≤ o.v) = false := decide_eq_false hle
        have hgt : verP T (tl x.p) < bestV R (tl x.p) := by rw [← hbV, ← hov.out]; omega
        have HFM : Hid (∀ q, q ∈ insS (tl x.p) F ↔ (q ∈ (R.take (i + 1)).map (·.1) ∧ verP T q < bestV R q)) := Lib.hid (fun q => by
          rw [(ins_set hFs.out).2, hFm.out, HSN.out, List.mem_append, List.mem_singleton]
          constructor
          · rintro (h1 | ⟨h1, h2⟩)
            · subst h1; exact ⟨.inr rfl, hgt⟩
            · exact ⟨.inl h1, h2⟩
          · rintro ⟨h1 | h1, h2⟩
            · exact .inr ⟨h1, h2⟩
            · exact .inl h1)
        have HFS := Lib.hid (ins_set (p := tl x.p) hFs.out).1
        have HFL : Hid (∀ q ∈ F, q.length ≤ 1048576) := Lib.hid (fun q hq => by
          have h1 := ((hFm.out q).1 hq).1
          rw [HRR.out, ← List.map_take, List.map_map] at h1
          obtain ⟨y, hy, rfl⟩ := List.mem_map.1 h1
          have h2 := (HR.out.ok y (List.mem_of_mem_take hy)).1
          show (tl y.p).length ≤ _
          rw [tl_len]; exact h2)
        obtain ⟨A2, c2, he0, hF1, hF2, hF3, hF4, hF5⟩ := own_form ho2
        obtain ⟨rfl, rfl⟩ : A' = A2 ∧ c' = c2 := by injection he0 with e1 _ e3; exact ⟨e1, e3⟩
        have HO2 := Lib.hid ho2
        have hs2 := hw2.size
        have HF4 := Lib.hid hF4
        have HF5 := Lib.hid hF5
        rw [show maxLen = 9223372036854775807 from rfl] at hF2
        clear hbV hov hgt hFm hFs ho2 he0 hF3 hF4 hF5
        go_wp2_with fail
        go_loopw [10] (fun kv wr => ∃ k : Nat, k ≤ F.length ∧ kv = .int .i64 (k : Int) ∧ Hid (∀ q ∈ F.take k, cmpT q (tl x.p) < 0) ∧ Below wb.heap.size wb wr) (fun kv _ => F.length - (intOf kv).toNat)
        case atStart => exact ⟨0, Nat.zero_le _, rfl, by show ∀ q ∈ F.take 0, _; simp, Below.refl _ _⟩
        case round =>
          rename World => w3
          obtain ⟨k, hk, rfl, hkq, hb3⟩ := hrel
          have hw3 := hw2.trans (hb3.mono hs2)
          by_cases hkl : k < F.length
          · obtain ⟨b2, off2, hA2, hbb2, f0⟩ := txt_atE rfl (own_below HO2.out hb3) hkl
            obtain rfl : off2 = 0 := by
              have := HF5.out _ hA2
              simpa using this
            rw [Nat.zero_add] at f0
            have hql := HFL.out _ (List.getElem_mem hkl)
            have htk := List.take_succ_eq_append_getElem hkl
            have hgk := List.getElem?_eq_getElem hkl
            obtain ⟨q, hq⟩ : ∃ q, q = F[k] := ⟨_, rfl⟩
            rw [← hq] at f0 hql htk hgk
            simp only [stv] at f0
            have HCM := Lib.hid (refCompare_any ⟨⟨q⟩⟩ x.p hql hxo w3)
            rw [show tl ⟨⟨q⟩⟩ = q from rfl] at HCM
            obtain ⟨y, hy⟩ : ∃ y : ByteArray, y = ⟨⟨q⟩⟩ := ⟨_, rfl⟩
            rw [← hy] at f0 HCM
            have HY : Hid (tl y = q) := Lib.hid (by rw [hy])
            have HGK := Lib.hid hgk
            have HTK := Lib.hid htk
            obtain ⟨cm, hcm⟩ : ∃ cm, cm = cmpT q (tl x.p) := ⟨_, rfl⟩
            rw [← hcm] at HCM
            have HC := Lib.hid hcm
            have HQK := Lib.hid hq
            clear hgk htk hcm hq hy
            by_cases hc : cm < 0
            · have hcd : decide (cm < 0) = true := decide_eq_true hc
              have HN : Hid (∀ q ∈ F.take (k + 1), cmpT q (tl x.p) < 0) := Lib.hid (by
                rw [HTK.out]
                intro y hy
                rcases List.mem_append.1 hy with hy | hy
                · exact hkq.out y hy
                · rw [List.mem_singleton.1 hy, ← HC.out]; exact hc)
              subst hA2
              go_wp2_with fail
              refine HCM.out.mono ?_
              rintro e w4 ⟨rfl, hb4⟩
              go_wp2_with fail
              go_roundw
              case rel => exact ⟨k + 1, hkl, by go_num, HN.out, hb3.trans (hb4.mono hb3.size)⟩
              case measure => simp [intOf]; omega
            · have hcd : decide (cm < 0) = false := decide_eq_false hc
              have HAT : Hid (atS (tl x.p) F = k) := Lib.hid (atS_of hk hkq.out (fun h => by rw [← HQK.out, ← HC.out]; exact hc))
              by_cases he : y = x.p
              · have heq := eq_yes he
                have HSF : Hid (insS (tl x.p) F = F) := Lib.hid (by
                  unfold insS
                  rw [HAT.out, HGK.out, if_pos (by rw [← he, HY.out])])
                rw [HSF.out] at HFS HFM
                subst hA2
                clear he
                go_wp2_with fail
                refine HCM.out.mono ?_
                rintro e w4 ⟨rfl, hb4⟩
                have hw4 := hw3.trans (hb4.mono hw3.size)
                replace f0 := (hb4.cell hbb2).trans f0
                have ho4 := own_below (own_below HO2.out hb3) hb4
                go_wp2_with fail
                go_roundw
                case rel => exact ⟨i + 1, _, c', F, hlt, by go_num, rfl, HFS.out, HFM.out, by omega, ho4, hw4⟩
                case measure => simp [intOf]; omega
              · have heq := eq_no he
                have HI : Hid (F.take k ++ tl x.p :: F.drop k = insS (tl x.p) F) := Lib.hid (by
                  unfold insS
                  rw [HAT.out, HGK.out, if_neg (fun e => he (by injection e with e; apply tl_inj; rw [HY.out]; exact e))])
                have HIL : Hid ((insS (tl x.p) F).length ≤ i + 1) := Lib.hid (by
                  rw [← HI.out]; simp; omega)
                subst hA2
                clear he
                go_wp2_with fail
                refine HCM.out.mono ?_
                rintro e w4 ⟨rfl, hb4⟩
                have hw4 := hw3.trans (hb4.mono hw3.size)
                replace f0 := (hb4.cell hbb2).trans f0
                have HO4 := Lib.hid (own_below (own_below HO2.out hb3) hb4)
                clear HCM HTK HGK HC HQK
                have b3 : ¬ c' - k = 0 := by omega
                have b4 : ¬ c' = 0 := by omega
                have hck : ¬ c' = k := by omega
                have hO5 := Lib.hid (World.ownsRow_lit (base := w4.heap.size) (e := 9) (size := 1) w4 #[] 0 (Nat.le_refl _) (by simp [maxLen]) (by simp))
                have hz5 : w4.heap.size ≤ (w4.alloc (.cells #[] 9)).heap.size := by simp
                have hR5 : Hid (Rd (w4.alloc (.cells #[] 9)) (fun _ => True) 1 (some ⟨b2, 0, none⟩) k ((F.take k).map stv)) := Lib.hid (by
                  have := ((own_rd HO4.out).mono (fun _ _ _ => trivial)).take hk
                  rw [Nat.mul_one, ← List.map_take] at this
                  exact this.alloc _)
                obtain ⟨M1, hM1⟩ : ∃ M1, M1 = [] ++ F.take k := ⟨_, rfl⟩
                have hM1l : M1.length ≤ 1000000 := by rw [hM1]; simp <;> omega
                obtain ⟨M2, hM2⟩ : ∃ M2, M2 = M1 ++ [tl x.p] := ⟨_, rfl⟩
                have hM2l : M2.length ≤ 1000001 := by rw [hM2]; simp <;> omega
                obtain ⟨M3, hM3⟩ : ∃ M3, M3 = M2 ++ F.drop k := ⟨_, rfl⟩
                have HM3 := Lib.hid hM3
                have HI3 : Hid (M3 = insS (tl x.p) F) := Lib.hid (by rw [hM3, hM2, hM1, ← HI.out]; simp)
                have HM1 := Lib.hid hM1
                have HM2 := Lib.hid hM2
                have HDR := Lib.hid (fun w8 (hb8 : Below w4.heap.size w4 w8) => ((own_rd (own_below HO4.out hb8)).mono (Z' := fun _ => True) (fun _ _ _ => trivial)).drop (k := k) (cap := c') hk hF1)
                rw [Nat.mul_one, ← List.map_drop] at HDR
                rw [if_neg hck, Option.map_some, add_none, Nat.zero_add] at HDR
                clear hM1 hM2 hM3 HI
                go_wp2_with (at_builtin; first
                  | (refine wpList_append_sts rfl (.tmp 59) (.tmp 62) (t := 63) rfl rfl (L := []) (M := F.take k) (by first | rfl | (simp; done)) (by first | rfl | (simp; done)) hO5.out (by first | rfl | (simp; done)) hR5.out (by first | omega | (simp; done) | (simp; omega)) hz5 ?_; intro A6 c6 w6 ho6 hb6 _ _; rw [← HM1.out] at ho6 ⊢; have hb6' : Below w4.heap.size w4 w6 := ((Below.refl _ w4).alloc (Nat.le_refl _) _).trans hb6; have hb7 : Below w4.heap.size w4 (w6.alloc (.cells #[.string x.p] 9)) := hb6'.alloc hb6'.size _; have HO7 := Lib.hid (World.ownsRow.alloc ho6 (.cells #[.string x.p] 9)); have HR7 : Hid (Rd (w6.alloc (.cells #[.string x.p] 9)) (fun _ => True) 1 (some ⟨w6.heap.size, 0, none⟩) 1 (([tl x.p] : List (List UInt8)).map stv)) := (Rd.lit (w := w6) (t := 9) (size := 1) (n := 1) (xs := [.string x.p]) (b := w6.heap.size) rfl rfl (by simp)).mono (fun _ _ _ => trivial); clear hO5 hR5 ho6 hb6 hb6')
                  | (refine wpList_append_sts rfl (.tmp 64) (.tmp 66) (t := 63) rfl rfl (L := M1) (M := [tl x.p]) (by first | rfl | (simp; done)) (by first | rfl | (simp; done)) HO7.out (by first | rfl | (simp; done)) HR7.out (by first | omega | (simp; done) | (simp; omega)) hb7.size ?_; intro A8 c8 w8 ho8 hb8 _ _; rw [← HM2.out] at ho8 ⊢; have hb8 : Below w4.heap.size w4 w8 := hb7.trans hb8; have HO8 := Lib.hid ho8; have HR8 := Lib.hid (HDR.out _ hb8); clear HO7 HR7 ho8 hb7 HDR)
                  | (refine wpList_append_sts rfl (.tmp 68) (.tmp 71) (t := 63) rfl rfl (L := M2) (M := F.drop k) (by first | rfl | (simp; done)) (by first | rfl | (simp; done)) HO8.out (by first | rfl | (simp; done)) HR8.out (by first | omega | (simp; done) | (simp; omega)) hb8.size ?_; intro A9 c9 w9 ho9 hb9 _ _; rw [← HM3.out] at ho9 ⊢; clear HO8 HR8))
                have hb9 : Below w4.heap.size w4 w9 := hb8.trans hb9
                have HO9 := Lib.hid ho9
                rw [HI3.out] at HO9 ⊢
                clear ho9 hb8
                go_wp2_with fail
                go_roundw
                case rel => exact ⟨i + 1, A9, c9, insS (tl x.p) F, hlt, by go_num, rfl, HFS.out, HFM.out, HIL.out, own_base HO9.out (fun g hg => Nat.le_trans hw4.size (HO9.out.lt _ hg).1), hw4.trans (hb9.mono hw4.size)⟩
                case measure => simp [intOf]; omega
          · have hke : Hid (k = F.length) := Lib.hid (by omega)
            have HAT : Hid (atS (tl x.p) F = k) := Lib.hid (atS_of hk hkq.out (fun h => absurd h hkl))
            have HGK : Hid (F[k]? = none) := Lib.hid (by rw [hke.out]; simp)
            have HI : Hid (F.take k ++ tl x.p :: F.drop k = insS (tl x.p) F) := Lib.hid (by
              unfold insS
              rw [HAT.out, HGK.out, if_neg (by simp)])
            have HIL : Hid ((insS (tl x.p) F).length ≤ i + 1) := Lib.hid (by
              rw [← HI.out]; simp; omega)
            have hkd : decide (k < F.length) = false := decide_eq_false hkl
            have HO4 := Lib.hid (own_below HO2.out hb3)
            clear HGK
            by_cases hF0 : F.length = 0
            · obtain rfl : F = [] := List.eq_nil_of_length_eq_zero hF0
              obtain rfl : k = 0 := by simp at hk; exact hk
              clear hF0
              rcases A' with _ | ⟨g, ao, ap⟩
              · obtain ⟨_, rfl⟩ := HF4.out rfl
                have hO5 := Lib.hid (World.ownsRow_lit (base := w3.heap.size) (e := 9) (size := 1) w3 #[] 0 (Nat.le_refl _) (by simp [maxLen]) (by simp))
                have hz5 : w3.heap.size ≤ (w3.alloc (.cells #[] 9)).heap.size := by simp
                obtain ⟨M2, hM2⟩ : ∃ M2, M2 = [] ++ [tl x.p] := ⟨_, rfl⟩
                have hM2l : M2.length ≤ 1000001 := by rw [hM2]; simp
                obtain ⟨M3, hM3⟩ : ∃ M3, M3 = M2 ++ ([] : List (List UInt8)) := ⟨_, rfl⟩
                have HM2 := Lib.hid hM2
                have HM3 := Lib.hid hM3
                have HI3 : Hid (M3 = insS (tl x.p) ([] : List (List UInt8))) := Lib.hid (by rw [hM3, hM2, ← HI.out]; simp)
                have HO7 := Lib.hid (World.ownsRow.alloc hO5.out (.cells #[.string x.p] 9))
                have HR7 : Hid (Rd ((w3.alloc (.cells #[] 9)).alloc (.cells #[.string x.p] 9)) (fun _ => True) 1 (some ⟨w3.heap.size + 1, 0, none⟩) 1 (([tl x.p] : List (List UInt8)).map stv)) := (Rd.lit (w := (w3.alloc (.cells #[] 9))) (t := 9) (size := 1) (n := 1) (xs := [.string x.p]) (b := w3.heap.size + 1) rfl rfl (by simp)).mono (fun _ _ _ => trivial)
                have hb7 : Below w3.heap.size w3 ((w3.alloc (.cells #[] 9)).alloc (.cells #[.string x.p] 9)) := ((Below.refl _ w3).alloc (Nat.le_refl _) _).alloc (by simp) _
                clear hM2 hM3 HI
                go_wp2_with (at_builtin; first
                  | (refine wpList_append_sts rfl (.tmp 64) (.tmp 66) (t := 63) rfl rfl (L := []) (M := [tl x.p]) (by first | rfl | (simp; done)) (by first | rfl | (simp; done)) HO7.out (by first | rfl | (simp; done)) HR7.out (by first | omega | (simp; done) | (simp; omega)) hb7.size ?_; intro A8 c8 w8 ho8 hb8 _ _; rw [← HM2.out] at ho8 ⊢; have hb8 : Below w3.heap.size w3 w8 := hb7.trans hb8; have HO8 := Lib.hid ho8; clear HO7 HR7 ho8 hb7)
                  | (refine wpList_append_sts rfl (.tmp 68) (.tmp 71) (t := 63) rfl rfl (L := M2) (M := ([] : List (List UInt8))) (by first | rfl | (simp; done)) (by first | rfl | (simp; done)) HO8.out (by first | rfl | (simp; done)) (Rd.nil : Rd _ (fun _ => True) 1 _ 0 []) (by first | omega | (simp; done) | (simp; omega)) hb8.size ?_; intro A9 c9 w9 ho9 hb9 _ _; rw [← HM3.out] at ho9 ⊢; clear HO8))
                have hb9 : Below w3.heap.size w3 w9 := hb8.trans hb9
                have HO9 := Lib.hid ho9
                rw [HI3.out] at HO9 ⊢
                clear ho9 hb8
                go_wp2_with fail
                go_roundw
                case rel => exact ⟨i + 1, A9, c9, insS (tl x.p) ([] : List (List UInt8)), hlt, by go_num, rfl, HFS.out, HFM.out, HIL.out, own_base HO9.out (fun g hg => Nat.le_trans hw3.size (HO9.out.lt _ hg).1), hw3.trans (hb9.mono hw3.size)⟩
                case measure => simp [intOf]; omega
              · obtain ⟨rfl, rfl⟩ : ao = 0 ∧ ap = none := by
                  have := HF5.out _ rfl
                  simpa using this
                have hO5 := Lib.hid (World.ownsRow_lit (base := w3.heap.size) (e := 9) (size := 1) w3 #[] 0 (Nat.le_refl _) (by simp [maxLen]) (by simp))
                have hz5 : w3.heap.size ≤ (w3.alloc (.cells #[] 9)).heap.size := by simp
                obtain ⟨M2, hM2⟩ : ∃ M2, M2 = [] ++ [tl x.p] := ⟨_, rfl⟩
                have hM2l : M2.length ≤ 1000001 := by rw [hM2]; simp
                obtain ⟨M3, hM3⟩ : ∃ M3, M3 = M2 ++ ([] : List (List UInt8)) := ⟨_, rfl⟩
                have HM2 := Lib.hid hM2
                have HM3 := Lib.hid hM3
                have HI3 : Hid (M3 = insS (tl x.p) ([] : List (List UInt8))) := Lib.hid (by rw [hM3, hM2, ← HI.out]; simp)
                have HO7 := Lib.hid (World.ownsRow.alloc hO5.out (.cells #[.string x.p] 9))
                have HR7 : Hid (Rd ((w3.alloc (.cells #[] 9)).alloc (.cells #[.string x.p] 9)) (fun _ => True) 1 (some ⟨w3.heap.size + 1, 0, none⟩) 1 (([tl x.p] : List (List UInt8)).map stv)) := (Rd.lit (w := (w3.alloc (.cells #[] 9))) (t := 9) (size := 1) (n := 1) (xs := [.string x.p]) (b := w3.heap.size + 1) rfl rfl (by simp)).mono (fun _ _ _ => trivial)
                have hb7 : Below w3.heap.size w3 ((w3.alloc (.cells #[] 9)).alloc (.cells #[.string x.p] 9)) := ((Below.refl _ w3).alloc (Nat.le_refl _) _).alloc (by simp) _
                clear hM2 hM3 HI
                go_wp2_with (at_builtin; first
                  | (refine wpList_append_sts rfl (.tmp 64) (.tmp 66) (t := 63) rfl rfl (L := []) (M := [tl x.p]) (by first | rfl | (simp; done)) (by first | rfl | (simp; done)) HO7.out (by first | rfl | (simp; done)) HR7.out (by first | omega | (simp; done) | (simp; omega)) hb7.size ?_; intro A8 c8 w8 ho8 hb8 _ _; rw [← HM2.out] at ho8 ⊢; have hb8 : Below w3.heap.size w3 w8 := hb7.trans hb8; have HO8 := Lib.hid ho8; clear HO7 HR7 ho8 hb7)
                  | (refine wpList_append_sts rfl (.tmp 68) (.tmp 71) (t := 63) rfl rfl (L := M2) (M := ([] : List (List UInt8))) (by first | rfl | (simp; done)) (by first | rfl | (simp; done)) HO8.out (by first | rfl | (simp; done)) (Rd.nil : Rd _ (fun _ => True) 1 _ 0 []) (by first | omega | (simp; done) | (simp; omega)) hb8.size ?_; intro A9 c9 w9 ho9 hb9 _ _; rw [← HM3.out] at ho9 ⊢; clear HO8))
                have hb9 : Below w3.heap.size w3 w9 := hb8.trans hb9
                have HO9 := Lib.hid ho9
                rw [HI3.out] at HO9 ⊢
                clear ho9 hb8
                go_wp2_with fail
                go_roundw
                case rel => exact ⟨i + 1, A9, c9, insS (tl x.p) ([] : List (List UInt8)), hlt, by go_num, rfl, HFS.out, HFM.out, HIL.out, own_base HO9.out (fun g hg => Nat.le_trans hw3.size (HO9.out.lt _ hg).1), hw3.trans (hb9.mono hw3.size)⟩
                case measure => simp [intOf]; omega
            · rcases A' with _ | ⟨g, ao, ap⟩
              · exact absurd (HF4.out rfl).1 hF0
              obtain ⟨rfl, rfl⟩ : ao = 0 ∧ ap = none := by
                have := HF5.out _ rfl
                simpa using this
              have b5 : ¬ k = 0 := by have := hke.out; omega
              have b4 : ¬ c' = 0 := by omega
              by_cases hck : c' = k
              · have b3 : c' - k = 0 := by omega
                have HCK := Lib.hid hck
                clear hck
                have hO5 := Lib.hid (World.ownsRow_lit (base := w3.heap.size) (e := 9) (size := 1) w3 #[] 0 (Nat.le_refl _) (by simp [maxLen]) (by simp))
                have hz5 : w3.heap.size ≤ (w3.alloc (.cells #[] 9)).heap.size := by simp
                have hR5 : Hid (Rd (w3.alloc (.cells #[] 9)) (fun _ => True) 1 (some ⟨g, 0, none⟩) k ((F.take k).map stv)) := Lib.hid (by
                  have := ((own_rd HO4.out).mono (fun _ _ _ => trivial)).take hk
                  rw [Nat.mul_one, ← List.map_take] at this
                  exact this.alloc _)
                obtain ⟨M1, hM1⟩ : ∃ M1, M1 = [] ++ F.take k := ⟨_, rfl⟩
                have hM1l : M1.length ≤ 1000000 := by rw [hM1]; simp <;> omega
                obtain ⟨M2, hM2⟩ : ∃ M2, M2 = M1 ++ [tl x.p] := ⟨_, rfl⟩
                have hM2l : M2.length ≤ 1000001 := by rw [hM2]; simp <;> omega
                obtain ⟨M3, hM3⟩ : ∃ M3, M3 = M2 ++ F.drop k := ⟨_, rfl⟩
                have HM3 := Lib.hid hM3
                have HI3 : Hid (M3 = insS (tl x.p) F) := Lib.hid (by rw [hM3, hM2, hM1, ← HI.out]; simp)
                have HM1 := Lib.hid hM1
                have HM2 := Lib.hid hM2
                have HDR := Lib.hid (fun w8 (hb8 : Below w3.heap.size w3 w8) => ((own_rd (own_below HO4.out hb8)).mono (Z' := fun _ => True) (fun _ _ _ => trivial)).drop (k := k) (cap := c') hk hF1)
                rw [Nat.mul_one, ← List.map_drop] at HDR
                rw [if_pos HCK.out] at HDR
                clear hM1 hM2 hM3 HI
                go_wp2_with (at_builtin; first
                  | (refine wpList_append_sts rfl (.tmp 59) (.tmp 62) (t := 63) rfl rfl (L := []) (M := F.take k) (by first | rfl | (simp; done)) (by first | rfl | (simp; done)) hO5.out (by first | rfl | (simp; done)) hR5.out (by first | omega | (simp; done) | (simp; omega)) hz5 ?_; intro A6 c6 w6 ho6 hb6 _ _; rw [← HM1.out] at ho6 ⊢; have hb6' : Below w3.heap.size w3 w6 := ((Below.refl _ w3).alloc (Nat.le_refl _) _).trans hb6; have hb7 : Below w3.heap.size w3 (w6.alloc (.cells #[.string x.p] 9)) := hb6'.alloc hb6'.size _; have HO7 := Lib.hid (World.ownsRow.alloc ho6 (.cells #[.string x.p] 9)); have HR7 : Hid (Rd (w6.alloc (.cells #[.string x.p] 9)) (fun _ => True) 1 (some ⟨w6.heap.size, 0, none⟩) 1 (([tl x.p] : List (List UInt8)).map stv)) := (Rd.lit (w := w6) (t := 9) (size := 1) (n := 1) (xs := [.string x.p]) (b := w6.heap.size) rfl rfl (by simp)).mono (fun _ _ _ => trivial); clear hO5 hR5 ho6 hb6 hb6')
                  | (refine wpList_append_sts rfl (.tmp 64) (.tmp 66) (t := 63) rfl rfl (L := M1) (M := [tl x.p]) (by first | rfl | (simp; done)) (by first | rfl | (simp; done)) HO7.out (by first | rfl | (simp; done)) HR7.out (by first | omega | (simp; done) | (simp; omega)) hb7.size ?_; intro A8 c8 w8 ho8 hb8 _ _; rw [← HM2.out] at ho8 ⊢; have hb8 : Below w3.heap.size w3 w8 := hb7.trans hb8; have HO8 := Lib.hid ho8; have HR8 := Lib.hid (HDR.out _ hb8); clear HO7 HR7 ho8 hb7 HDR)
                  | (refine wpList_append_sts rfl (.tmp 68) (.tmp 71) (t := 63) rfl rfl (L := M2) (M := F.drop k) (by first | rfl | (simp; done)) (by first | rfl | (simp; done)) HO8.out (by first | rfl | (simp; done)) HR8.out (by first | omega | (simp; done) | (simp; omega)) hb8.size ?_; intro A9 c9 w9 ho9 hb9 _ _; rw [← HM3.out] at ho9 ⊢; clear HO8 HR8))
                have hb9 : Below w3.heap.size w3 w9 := hb8.trans hb9
                have HO9 := Lib.hid ho9
                rw [HI3.out] at HO9 ⊢
                clear ho9 hb8
                go_wp2_with fail
                go_roundw
                case rel => exact ⟨i + 1, A9, c9, insS (tl x.p) F, hlt, by go_num, rfl, HFS.out, HFM.out, HIL.out, own_base HO9.out (fun g hg => Nat.le_trans hw3.size (HO9.out.lt _ hg).1), hw3.trans (hb9.mono hw3.size)⟩
                case measure => simp [intOf]; omega
              · have b3 : ¬ c' - k = 0 := by omega
                have hO5 := Lib.hid (World.ownsRow_lit (base := w3.heap.size) (e := 9) (size := 1) w3 #[] 0 (Nat.le_refl _) (by simp [maxLen]) (by simp))
                have hz5 : w3.heap.size ≤ (w3.alloc (.cells #[] 9)).heap.size := by simp
                have hR5 : Hid (Rd (w3.alloc (.cells #[] 9)) (fun _ => True) 1 (some ⟨g, 0, none⟩) k ((F.take k).map stv)) := Lib.hid (by
                  have := ((own_rd HO4.out).mono (fun _ _ _ => trivial)).take hk
                  rw [Nat.mul_one, ← List.map_take] at this
                  exact this.alloc _)
                obtain ⟨M1, hM1⟩ : ∃ M1, M1 = [] ++ F.take k := ⟨_, rfl⟩
                have hM1l : M1.length ≤ 1000000 := by rw [hM1]; simp <;> omega
                obtain ⟨M2, hM2⟩ : ∃ M2, M2 = M1 ++ [tl x.p] := ⟨_, rfl⟩
                have hM2l : M2.length ≤ 1000001 := by rw [hM2]; simp <;> omega
                obtain ⟨M3, hM3⟩ : ∃ M3, M3 = M2 ++ F.drop k := ⟨_, rfl⟩
                have HM3 := Lib.hid hM3
                have HI3 : Hid (M3 = insS (tl x.p) F) := Lib.hid (by rw [hM3, hM2, hM1, ← HI.out]; simp)
                have HM1 := Lib.hid hM1
                have HM2 := Lib.hid hM2
                have HDR := Lib.hid (fun w8 (hb8 : Below w3.heap.size w3 w8) => ((own_rd (own_below HO4.out hb8)).mono (Z' := fun _ => True) (fun _ _ _ => trivial)).drop (k := k) (cap := c') hk hF1)
                rw [Nat.mul_one, ← List.map_drop] at HDR
                rw [if_neg hck, Option.map_some, add_none, Nat.zero_add] at HDR
                clear hM1 hM2 hM3 HI
                go_wp2_with (at_builtin; first
                  | (refine wpList_append_sts rfl (.tmp 59) (.tmp 62) (t := 63) rfl rfl (L := []) (M := F.take k) (by first | rfl | (simp; done)) (by first | rfl | (simp; done)) hO5.out (by first | rfl | (simp; done)) hR5.out (by first | omega | (simp; done) | (simp; omega)) hz5 ?_; intro A6 c6 w6 ho6 hb6 _ _; rw [← HM1.out] at ho6 ⊢; have hb6' : Below w3.heap.size w3 w6 := ((Below.refl _ w3).alloc (Nat.le_refl _) _).trans hb6; have hb7 : Below w3.heap.size w3 (w6.alloc (.cells #[.string x.p] 9)) := hb6'.alloc hb6'.size _; have HO7 := Lib.hid (World.ownsRow.alloc ho6 (.cells #[.string x.p] 9)); have HR7 : Hid (Rd (w6.alloc (.cells #[.string x.p] 9)) (fun _ => True) 1 (some ⟨w6.heap.size, 0, none⟩) 1 (([tl x.p] : List (List UInt8)).map stv)) := (Rd.lit (w := w6) (t := 9) (size := 1) (n := 1) (xs := [.string x.p]) (b := w6.heap.size) rfl rfl (by simp)).mono (fun _ _ _ => trivial); clear hO5 hR5 ho6 hb6 hb6')
                  | (refine wpList_append_sts rfl (.tmp 64) (.tmp 66) (t := 63) rfl rfl (L := M1) (M := [tl x.p]) (by first | rfl | (simp; done)) (by first | rfl | (simp; done)) HO7.out (by first | rfl | (simp; done)) HR7.out (by first | omega | (simp; done) | (simp; omega)) hb7.size ?_; intro A8 c8 w8 ho8 hb8 _ _; rw [← HM2.out] at ho8 ⊢; have hb8 : Below w3.heap.size w3 w8 := hb7.trans hb8; have HO8 := Lib.hid ho8; have HR8 := Lib.hid (HDR.out _ hb8); clear HO7 HR7 ho8 hb7 HDR)
                  | (refine wpList_append_sts rfl (.tmp 68) (.tmp 71) (t := 63) rfl rfl (L := M2) (M := F.drop k) (by first | rfl | (simp; done)) (by first | rfl | (simp; done)) HO8.out (by first | rfl | (simp; done)) HR8.out (by first | omega | (simp; done) | (simp; omega)) hb8.size ?_; intro A9 c9 w9 ho9 hb9 _ _; rw [← HM3.out] at ho9 ⊢; clear HO8 HR8))
                have hb9 : Below w3.heap.size w3 w9 := hb8.trans hb9
                have HO9 := Lib.hid ho9
                rw [HI3.out] at HO9 ⊢
                clear ho9 hb8
                go_wp2_with fail
                go_roundw
                case rel => exact ⟨i + 1, A9, c9, insS (tl x.p) F, hlt, by go_num, rfl, HFS.out, HFM.out, HIL.out, own_base HO9.out (fun g hg => Nat.le_trans hw3.size (HO9.out.lt _ hg).1), hw3.trans (hb9.mono hw3.size)⟩
                case measure => simp [intOf]; omega
    · have e : i = l.length := by omega
      subst e
      have HF : Hid (F = fetchS T R) := Lib.hid (by
        have hlen : R.take l.length = R := by
          have : R.length = l.length := by rw [HRR.out]; simp
          rw [← this, List.take_length]
        refine sorted_eq hFs.out ((sortedS_keys (theirs_sort R)).filter _) fun q => ?_
        rw [hFm.out, hlen]
        unfold fetchS
        rw [List.mem_filter, theirs_mem]
        simp)
      obtain ⟨w5, hw5⟩ : ∃ w5, w5 = wr := ⟨_, rfl⟩
      rw [← hw5] at hown hb
      have HO5 := Lib.hid hown
      have hs5 := hb.size
      have hb5 := hb
      subst hw5
      clear hFm hFs hown
      go_wp2_with fail
      go_loopw [7, 12] (fun gv iv wr => ∃ (i : Nat) (A9 : Option Addr) (c9 : Nat) (g : List (List UInt8)), i ≤ M.length ∧ iv = .int .i64 (i : Int) ∧ gv = .slice A9 g.length c9 ∧ Hid (g = ((keysR T).take i).filter fun p => decide (bestV R p < verP T p)) ∧ g.length ≤ i ∧ wr.ownsRow w5.heap.size 9 1 (.slice A9 g.length c9) g.length (g.map stv) ∧ Below w5.heap.size w5 wr) (fun _ iv _ => M.length - (intOf iv).toNat)
      case atStart => exact ⟨0, none, 0, [], Nat.zero_le _, rfl, rfl, rfl, Nat.le_refl _, World.ownsRow_nil _ _ _ _, Below.refl _ _⟩
      case round =>
        rename World => w6
        clear hb
        obtain ⟨i, A9, c9, g, hi, rfl, rfl, hg, hgi, hog, hb9⟩ := hrel
        have hb := hb5.trans (hb9.mono hs5)
        have hkl : (keysR T).length = M.length := by rw [keys_len, hTl]
        by_cases hlt : i < M.length
        · obtain ⟨b1, off1, hA1, hbb1, c0, c1, c2, c3⟩ := HE.out.at_ hlt
          have hlk : i < (keysR T).length := by omega
          have hkx : (keysR T)[i] = tl M[i].p := by
            have : keysR T = M.map fun y => tl y.p := by rw [← HTT.out]; simp [keysR, Function.comp_def, EV.pl]
            simp [this]
          have hvx : verP T (tl M[i].p) = M[i].v := by
            have h1 : (tl M[i].p, M[i].ep) ∈ T := by rw [← HTT.out]; exact List.mem_map.2 ⟨M[i], List.getElem_mem hlt, rfl⟩
            unfold verP
            rw [HSR.out.get h1]
            rfl
          have hfs := filt_snoc ((keysR T).take i) (keysR T)[i] (fun p => decide (bestV R p < verP T p))
          rw [← List.take_succ_eq_append_getElem hlk, ← hg.out, hkx] at hfs
          obtain ⟨x, hx⟩ : ∃ x, x = M[i] := ⟨_, rfl⟩
          rw [← hx] at c0 c1 hfs hvx
          rw [hvx] at hfs
          have HX : Hid (∀ W, Below w1.heap.size w1 W → W.cell? ⟨b1, off1 + i * 4, none⟩ = some (.string x.p) ∧ W.cell? ⟨b1, off1 + i * 4 + 1, none⟩ = some (.int .u64 x.v)) := Lib.hid (fun W hW => by rw [hW.cell hbb1, hW.cell hbb1]; exact ⟨c0, c1⟩)
          have HBE := Lib.hid (fun W (hW : Below w1.heap.size w1 W) => refBest_any B d l x.p W (HR.out.below hW))
          rw [← HRR.out] at HBE
          obtain ⟨bV, hbV⟩ : ∃ bV, bV = bestV R (tl x.p) := ⟨_, rfl⟩
          rw [← hbV] at HBE hfs
          have HFS := Lib.hid hfs
          subst hA1
          clear c0 c1 c2 c3 hkx hvx hfs hbV hx hg hlk
          obtain ⟨q0, q1⟩ := HBK.out w6 hb
          go_upto_region 17 with (fail)
          clear q0 q1
          refine wp_region_b 15 (by kernel_rfl) (by kernel_rfl) ?_
          simp only [List.take_succ_cons, List.take_zero, List.drop_succ_cons, List.drop_zero]
          refine lb_move _ (by kernel_rfl) rfl ⟨_, (by ((try simp [go_sem]); (try rfl); done)), _, (by (simp only [Act.put, List.setIfInBounds_toArray, List.set_cons_zero, List.set_cons_succ]; rfl)), ?_⟩
          refine lb_val (by kernel_rfl) ⟨_, (by (intro w' hC; clear hC; (try go_simp); (try with_reducible rfl); done)), _, (by (simp only [Act.put, List.setIfInBounds_toArray, List.set_cons_zero, List.set_cons_succ]; rfl)), ?_⟩
          refine lb_val (by kernel_rfl) ⟨_, (by (intro w' hC; (have ⟨q0, q1⟩ := HBK.out _ (hb.trans (hC.mono hb.size))); clear hC; (try go_simp); (try with_reducible rfl); done)), _, (by (simp only [Act.put, List.setIfInBounds_toArray, List.set_cons_zero, List.set_cons_succ]; rfl)), ?_⟩
          refine lb_move _ (by kernel_rfl) rfl ⟨_, (by ((try simp [go_sem]); (try rfl); done)), _, (by (simp only [Act.put, List.setIfInBounds_toArray, List.set_cons_zero, List.set_cons_succ]; rfl)), ?_⟩
          refine lb_val (by kernel_rfl) ⟨_, (by (intro w' hC; clear hC; (try go_simp); (try with_reducible rfl); done)), _, (by (simp only [Act.put, List.setIfInBounds_toArray, List.set_cons_zero, List.set_cons_succ]; rfl)), ?_⟩
          refine lb_val (by kernel_rfl) ⟨_, (by (intro w' hC; clear hC; (try go_simp); (try with_reducible rfl); done)), _, (by (simp only [Act.put, List.setIfInBounds_toArray, List.set_cons_zero, List.set_cons_succ]; rfl)), ?_⟩
          refine lb_val (by kernel_rfl) ⟨_, (by (intro w' hC; (have ⟨c0, c1⟩ := HX.out w' (hb.trans (hC.mono hb.size))); clear hC; (try go_simp); (try with_reducible rfl); done)), _, (by (simp only [Act.put, List.setIfInBounds_toArray, List.set_cons_zero, List.set_cons_succ]; rfl)), ?_⟩
          refine lb_call (by kernel_rfl) (fun w' hC => HBE.out w' (hb.trans (hC.mono hb.size))) (by (intro w'; go_simp; done)) ⟨_, (by (simp only [Act.put, List.setIfInBounds_toArray, List.set_cons_zero, List.set_cons_succ]; rfl)), ?_⟩
          refine lb_val (by kernel_rfl) ⟨_, (by (intro w' hC; clear hC; (try go_simp); (try with_reducible rfl); done)), _, (by (simp only [Act.put, List.setIfInBounds_toArray, List.set_cons_zero, List.set_cons_succ]; rfl)), ?_⟩
          refine lb_val (by kernel_rfl) ⟨_, (by (intro w' hC; (have ⟨q0, q1⟩ := HBK.out _ (hb.trans (hC.mono hb.size))); clear hC; (try go_simp); (try with_reducible rfl); done)), _, (by (simp only [Act.put, List.setIfInBounds_toArray, List.set_cons_zero, List.set_cons_succ]; rfl)), ?_⟩
          refine lb_move _ (by kernel_rfl) rfl ⟨_, (by ((try simp [go_sem]); (try rfl); done)), _, (by (simp only [Act.put, List.setIfInBounds_toArray, List.set_cons_zero, List.set_cons_succ]; rfl)), ?_⟩
          refine lb_val (by kernel_rfl) ⟨_, (by (intro w' hC; clear hC; (try go_simp); (try with_reducible rfl); done)), _, (by (simp only [Act.put, List.setIfInBounds_toArray, List.set_cons_zero, List.set_cons_succ]; rfl)), ?_⟩
          refine lb_val (by kernel_rfl) ⟨_, (by (intro w' hC; clear hC; (try go_simp); (try with_reducible rfl); done)), _, (by (simp only [Act.put, List.setIfInBounds_toArray, List.set_cons_zero, List.set_cons_succ]; rfl)), ?_⟩
          refine lb_val (by kernel_rfl) ⟨_, (by (intro w' hC; (have ⟨c0, c1⟩ := HX.out w' (hb.trans (hC.mono hb.size))); clear hC; (try go_simp); (try with_reducible rfl); done)), _, (by (simp only [Act.put, List.setIfInBounds_toArray, List.set_cons_zero, List.set_cons_succ]; rfl)), ?_⟩
          refine lb_val (by kernel_rfl) ⟨_, (by (intro w' hC; clear hC; (try go_simp); (try with_reducible rfl); done)), _, (by (simp only [Act.put, List.setIfInBounds_toArray, List.set_cons_zero, List.set_cons_succ]; rfl)), ?_⟩
          refine .nil ?_
          intro w7 hb7
          have hw7 := hb.trans (hb7.mono hb.size)
          have hw57 := hb9.trans (hb7.mono hb9.size)
          have hog7 := own_below hog hb7
          obtain ⟨q0, q1⟩ := HBK.out w7 hw7
          obtain ⟨e0, e1⟩ := HX.out w7 hw7
          clear hog hb7 HBE
          by_cases hlu : bV < x.v
          · have hd : decide (bV < x.v) = true := decide_eq_true hlu
            have hfs := HFS.out
            rw [if_pos hd] at hfs
            have HFS2 := Lib.hid hfs
            have HO := Lib.hid (World.ownsRow.alloc hog7 (.cells #[.string x.p] 9))
            have hra : Hid (Rd (w7.alloc (.cells #[.string x.p] 9)) (fun _ => True) 1 (some ⟨w7.heap.size, 0, none⟩) 1 [stv (tl x.p)]) := (Rd.lit (w := w7) (t := 9) (size := 1) (n := 1) (xs := [.string x.p]) rfl rfl rfl).mono (fun _ _ _ => trivial)
            have hlb := hog7.lt
            have hs7 := hw57.size
            clear hfs hog7 HFS
            go_wp2_with (at_builtin; refine wpList_append_one rfl (.tmp 95) (.tmp 102) (t := 63) rfl rfl rfl HO.out rfl hra.out (by omega) (by simp; omega) ?_; intro A3 c3 w3 hown3 hg3)
            have hb3 : Below w5.heap.size w5 w3 := (hw57.alloc hs7 _).trans (grown_below hg3 (by simp; omega) (fun g hg => by have := (hlb _ hg).1; omega))
            go_roundw
            case rel => exact ⟨i + 1, A3, c3, g ++ [tl x.p], hlt, by go_num, by simp, HFS2.out.symm, by simp; omega, hown3, hb3⟩
            case measure => simp [intOf]; omega
          · have hd : decide (bV < x.v) = false := decide_eq_false hlu
            have hfs := HFS.out
            rw [if_neg (by rw [hd]; simp)] at hfs
            have HFS2 := Lib.hid hfs
            clear hfs HFS
            go_wp2_with fail
            go_roundw
            case rel => exact ⟨i + 1, A9, c9, g, hlt, by go_num, rfl, HFS2.out.symm, by omega, hog7, hw57⟩
            case measure => simp [intOf]; omega
        · have e : i = M.length := by omega
          subst e
          have HG3 : Hid (g = (keysR T).filter fun p => decide (bestV R p < verP T p)) := Lib.hid (by rw [hg.out, ← hkl, List.take_length])
          have hs89 := hb9.size
          obtain ⟨q0, q1⟩ := HBK.out w6 hb
          clear hg
          go_wp2_with fail
          refine bodyPost_ret (v := .tuple #[.slice A' F.length c', .slice A9 g.length c9]) (by simp [results, Try.results30, go_sem]) rfl ?_
          have hs1 := hw1.size
          exact ⟨⟨A', A9, c', c9, F, g, rfl, HF.out, HG3.out, own_base (own_below HO5.out hb9) (fun g hg => Nat.le_trans hs1 (HO5.out.lt _ hg).1), own_base hog (fun g hg => by have := (hog.lt _ hg).1; omega)⟩, hw1.trans (hb.mono hs1)⟩

end Go.Proofs.Ytdnljmncdbcgeaa

/- BookPlays is true for every input: whatever entries come, one after the other, what each is answered, and what the book has, whole and in rows, is the document's. No condition beyond the row's own. -/
namespace Go.Proofs.Ytdnljmncdbcgeaa
open Go.RowKit Go.Maps

theorem OwRw.at_ {w : World} {base : Nat} {A : Option Addr} {c : Nat} {l : List (List UInt8 × EP)} {i : Nat} (h : OwRw w base A c l) (hi : i < l.length) :
    ∃ b off, A = some ⟨b, off, none⟩ ∧ b < w.heap.size ∧ w.cell? ⟨b, off + i * 5, none⟩ = some (.string ⟨⟨l[i].1⟩⟩) ∧ w.cell? ⟨b, off + i * 5 + 1, none⟩ = some (.int .i64 l[i].2.2.1) ∧ w.cell? ⟨b, off + i * 5 + 2, none⟩ = some (.int .u64 l[i].2.1) ∧ w.cell? ⟨b, off + i * 5 + 3, none⟩ = some (.int .u64 0) ∧ w.cell? ⟨b, off + i * 5 + 4, none⟩ = some (.int .i64 (l[i].2.2.2.length : Int)) := by
  have hr : Rd w (fun _ => True) 5 A l.length (l.flatMap rowC) := Rd.of_own h (fun _ _ _ => trivial)
  obtain ⟨b, off, hA, _, hb, hc⟩ := hr.2 (by omega)
  have hg : ∀ j, j < 5 → (l.flatMap rowC)[i * 5 + j]? = (rowC l[i])[j]? := fun j hj => flat_get (k := 5) rowC_len l i j hi hj
  refine ⟨b, off, hA, hb, hc _ _ (hg 0 (by omega)), ?_, ?_, ?_, ?_⟩
  · rw [Nat.add_assoc]; exact hc _ _ (hg 1 (by omega))
  · rw [Nat.add_assoc]; exact hc _ _ (hg 2 (by omega))
  · rw [Nat.add_assoc]; exact hc _ _ (hg 3 (by omega))
  · rw [Nat.add_assoc]; exact hc _ _ (hg 4 (by omega))
theorem OwRw.below {w w' : World} {base : Nat} {A : Option Addr} {c : Nat} {l : List (List UInt8 × EP)} (h : OwRw w base A c l) (k : Below w.heap.size w w') : OwRw w' base A c l := own_below h k
set_option maxRecDepth 100000 in
theorem neq_row (p : ByteArray) (k v n : Int) (w : World) : (binOp .neq 52 (.agg #[.string p, .int .i64 k, .int .u64 v, .int .u64 0, .int .i64 n]) (.agg #[.string p, .int .i64 k, .int .u64 v, .int .u64 0, .int .i64 n])).run Try.prog w = .ok (.bool false) w := by
  rw [run_neq_struct, run_equalIn_struct _ _ _ _ _ (by kernel_rfl) (by kernel_rfl)]
  simp [go_sem]
theorem rows_all (T : List (List UInt8 × EP)) : rowsGo [] (-1) T [] = ([], !T.isEmpty) := by
  rcases T with _ | ⟨y, T⟩
  · rfl
  · rw [rowsGo_cons, if_neg (by simp [behB]), if_pos (by simp)]
    rfl
theorem rowsGo_len (a : List UInt8) (n : Int) : ∀ (T acc : List (List UInt8 × EP)), (rowsGo a n T acc).1.length ≤ acc.length + T.length
  | [], acc => Nat.le_refl _
  | y :: T, acc => by
    rw [rowsGo_cons]
    split
    · have := rowsGo_len a n T acc
      simp only [List.length_cons]; omega
    · split
      · simp
      · have := rowsGo_len a n T (acc ++ [y])
        simp only [List.length_cons, List.length_append, List.length_nil] at this ⊢; omega
/-- the first entry of a path, plainly -/
theorem find_ep (p : ByteArray) : ∀ M : List EV, (findE p M).pl = (tl p, ((getR (M.map EV.pl) (tl p)).getD (0, 0, [])))
  | [] => rfl
  | x :: M => by
    rw [List.map_cons, getR_cons]
    unfold findE
    by_cases h : x.p = p
    · rw [if_pos h, if_pos (by rw [← h]; rfl)]
      rw [← h]
      rfl
    · rw [if_neg h, if_neg (show ¬ x.pl.1 = tl p from fun e => h (tl_inj e)), find_ep p M]
theorem gotE_pl {w : World} {bb : Nat} {mo : Option Nat} {L : List (List UInt8 × EV)} {s : Int} (h : BookAt w bb mo L s) (p : List UInt8) : (gotE L p).pl = (p, ((getR (plainB L) p).getD (0, 0, []))) := by
  unfold gotE
  rw [get_plainB]
  rcases hg : getR L p with _ | o
  · rfl
  · have := (h.ok _ (getR_mem hg)).p
    show o.pl = _
    unfold EV.pl
    rw [this]
    rfl
theorem find_ok {w : World} {A : Option Addr} {M : List EV} (h : EsR w A M) (p : ByteArray) : (findE p M).x.ok w (fun _ => True) := by
  have : ∀ M : List EV, (∀ x ∈ M, x.x.ok w (fun _ => True)) → (findE p M).x.ok w (fun _ => True) := by
    intro M hM
    induction M with
    | nil => exact ⟨Rd.nil, by simp [findE], by simp [findE, maxLen]⟩
    | cons x M ih =>
      rw [findE_cons]
      split
      · exact hM x (by simp)
      · exact ih (fun y hy => hM y (by simp [hy]))
  exact this M h.ok

set_option maxRecDepth 100000 in
set_option maxHeartbeats 4000000 in
theorem bookPlays_any (A : Option Addr) (c : Nat) (l : List EV) (p : List UInt8) (n : Int) (w : World) (h : Ents w (fun b => b < w.heap.size) A l) (hp : p.length ≤ 140737488355328) (hn : 0 ≤ n ∧ n < 256) :
    Calls Try.prog 4 #[.slice A l.length c, .string ⟨⟨p⟩⟩, .int .u8 n] w fun e w' => e = .returned (.bool true) ∧ Below w.heap.size w w' := by
  have HL := Lib.hid (lightE_any A c l _ _ h)
  have HA := Lib.hid h
  clear h
  rcases hli : lightE l with _ | _
  · rw [hli] at HL
    go_enter Try.func4, Try.ntmps4
    go_wp2_with fail
    refine HL.out.mono ?_
    rintro e w1 ⟨rfl, hw1⟩
    go_wp2_with fail
    refine (lives22_any _).mono ?_
    rintro e w9 ⟨rfl, hb9⟩
    go_wp2_with fail
    go_ret
    exact ⟨rfl, hw1.trans (hb9.mono hw1.size)⟩
  · rw [hli] at HL
    have hla := lightE_all hli
    by_cases hp2 : p.length ≤ 200
    · go_enter Try.func4, Try.ntmps4
      go_wp2_with fail
      refine HL.out.mono ?_
      rintro e w1 ⟨rfl, hw1⟩
      have HPL := Lib.hid (plays22_any A c l _ w1 (HA.out.below hw1) hla)
      clear HL HA
      go_wp2_with fail
      refine HPL.out.mono ?_
      rintro e w3 ⟨bb, mo, L, B, d, M, rfl, hP, hbb, hmo, hb3⟩
      have hw3 := hw1.trans (hb3.mono hw1.size)
      have hba : Below w3.heap.size w3 (w3.alloc (.cells #[.int .u64 0, .slice B M.length d] 33)) := (Below.refl _ _).alloc (Nat.le_refl _) _
      have y4 := Blk.new w3 33 #[.int .u64 0, .slice B M.length d]
      have hw4 := hw3.trans (hba.mono hw3.size)
      have HP4 := Lib.hid (hP.below hba)
      clear HPL hP hb3
      go_upto_region 4 with (fail)
      generalize w3.alloc (.cells #[.int .u64 0, .slice B M.length d] 33) = w4 at *
      generalize hT : playB [] (l.map EV.pl) = T at *
      have hlm : L.length = M.length := by
        have h1 := congrArg List.length HP4.out.plain.out
        have h2 := congrArg List.length HP4.out.same.out
        rw [plainB_len] at h1
        rw [List.length_map] at h2
        omega
      have hlmb : ((L.length : Int) != (M.length : Int)) = false := by simp; omega
      have hML : M.length ≤ 256 := by have := HP4.out.book.len; omega
      have HLM := Lib.hid hlm
      clear hba hT hlm
      refine wp_region_p [(0, true), (1, true), (2, true), (3, true), (5, true), (6, true), (7, true), (4, false), (8, true), (9, true), (10, true), (11, true), (13, true), (14, true), (12, false), (15, false), (16, true), (17, true), (18, true), (19, true), (20, true), (22, true), (23, true), (21, false), (24, false), (25, false), (26, true), (27, true)] (fun W => Below w4.heap.size w4 W) (by kernel_rfl) (by kernel_rfl) ?_
      simp only [List.map_cons, List.map_nil, List.filterMap_cons, List.filterMap_nil, List.getElem?_cons_zero, List.getElem?_cons_succ, List.length_cons, List.length_nil, Nat.zero_add, Nat.reduceAdd, List.drop_succ_cons, List.drop_zero]
      refine mx_move _ (by kernel_rfl) rfl ⟨_, (by ((try simp [go_sem]); (try rfl); done)), _, (by (simp only [Act.put, List.setIfInBounds_toArray, List.set_cons_zero, List.set_cons_succ]; rfl)), ?_⟩
      refine mx_val (by kernel_rfl) ⟨_, (by (intro w' hC; clear hC; (try go_simp); (try with_reducible rfl); done)), _, (by (simp only [Act.put, List.setIfInBounds_toArray, List.set_cons_zero, List.set_cons_succ]; rfl)), ?_⟩
      refine mx_move _ (by kernel_rfl) rfl ⟨_, (by ((try simp [go_sem]); (try rfl); done)), _, (by (simp only [Act.put, List.setIfInBounds_toArray, List.set_cons_zero, List.set_cons_succ]; rfl)), ?_⟩
      refine mx_move _ (by kernel_rfl) rfl ⟨_, (by ((try simp [go_sem]); (try rfl); done)), _, (by (simp only [Act.put, List.setIfInBounds_toArray, List.set_cons_zero, List.set_cons_succ]; rfl)), ?_⟩
      refine mx_val (by kernel_rfl) ⟨_, (by (intro w' hC; clear hC; (try go_simp); (try with_reducible rfl); done)), _, (by (simp only [Act.put, List.setIfInBounds_toArray, List.set_cons_zero, List.set_cons_succ]; rfl)), ?_⟩
      refine mx_val (by kernel_rfl) ⟨_, (by (intro w' hC; (have q0 := (y4.below hC).cell 0; have q1 := (y4.below hC).cell 1; simp only [List.getElem?_toArray, List.getElem?_cons_zero, List.getElem?_cons_succ] at q0 q1); clear hC; (try go_simp); (try with_reducible rfl); done)), _, (by (simp only [Act.put, List.setIfInBounds_toArray, List.set_cons_zero, List.set_cons_succ]; rfl)), ?_⟩
      refine mx_val (by kernel_rfl) ⟨_, (by (intro w' hC; clear hC; (try go_simp); (try with_reducible rfl); done)), _, (by (simp only [Act.put, List.setIfInBounds_toArray, List.set_cons_zero, List.set_cons_succ]; rfl)), ?_⟩
      refine mx_call ((Below.refl _ _).drew) (by kernel_rfl) ?_ (bookLen_any bb mo L 0 w4.drew (HP4.out.book.below (Below.refl _ _).drew)) ?_
      · (go_simp; done)
      rintro e wa ⟨rfl, rfl⟩
      refine ⟨_, rfl, _, (by (simp only [Act.put, List.setIfInBounds_toArray, List.set_cons_zero, List.set_cons_succ]; rfl)), ?_⟩
      refine mx_val (by kernel_rfl) ⟨_, (by (intro w' hC; clear hC; (try go_simp); (try with_reducible rfl); done)), _, (by (simp only [Act.put, List.setIfInBounds_toArray, List.set_cons_zero, List.set_cons_succ]; rfl)), ?_⟩
      refine mx_val (by kernel_rfl) ⟨_, (by (intro w' hC; clear hC; (try go_simp); (try with_reducible rfl); done)), _, (by (simp only [Act.put, List.setIfInBounds_toArray, List.set_cons_zero, List.set_cons_succ]; rfl)), ?_⟩
      refine mx_move _ (by kernel_rfl) rfl ⟨_, (by ((try simp [go_sem]); (try rfl); done)), _, (by (simp only [Act.put, List.setIfInBounds_toArray, List.set_cons_zero, List.set_cons_succ]; rfl)), ?_⟩
      refine mx_move _ (by kernel_rfl) rfl ⟨_, (by ((try simp [go_sem]); (try rfl); done)), _, (by (simp only [Act.put, List.setIfInBounds_toArray, List.set_cons_zero, List.set_cons_succ]; rfl)), ?_⟩
      refine mx_val (by kernel_rfl) ⟨_, (by (intro w' hC; clear hC; (try go_simp); (try with_reducible rfl); done)), _, (by (simp only [Act.put, List.setIfInBounds_toArray, List.set_cons_zero, List.set_cons_succ]; rfl)), ?_⟩
      refine mx_val (by kernel_rfl) ⟨_, (by (intro w' hC; (have q0 := (y4.below hC).cell 0; have q1 := (y4.below hC).cell 1; simp only [List.getElem?_toArray, List.getElem?_cons_zero, List.getElem?_cons_succ] at q0 q1); clear hC; (try go_simp); (try with_reducible rfl); done)), _, (by (simp only [Act.put, List.setIfInBounds_toArray, List.set_cons_zero, List.set_cons_succ]; rfl)), ?_⟩
      refine mx_call ((Below.refl _ _).drew) (by kernel_rfl) ?_ (bookEntries_any bb mo L 0 w4.drew (HP4.out.book.below (Below.refl _ _).drew)) ?_
      · (go_simp; done)
      rintro e wb ⟨A5, c5, M5, rfl, hM5, hO5, hb5⟩
      have hcb : Below w4.heap.size w4 wb := ((Below.refl _ _).drew).trans hb5
      have hM5l : M5.length ≤ 256 := by
        have := congrArg List.length hM5.out
        rw [List.length_map, plainB_len] at this
        have := HP4.out.book.len
        omega
      have HSM := Lib.hid (refSame22_any A5 B c5 d M5 M wb (hO5.esr (by omega)) (HP4.out.es.below hcb))
      rw [hM5.out, HP4.out.plain.out, HP4.out.same.out, show ∀ (z : List (List UInt8 × EP)), decide (z = z) = true from fun z => by simp] at HSM
      clear hM5 hO5
      refine ⟨_, rfl, _, (by (simp only [Act.put, List.setIfInBounds_toArray, List.set_cons_zero, List.set_cons_succ]; rfl)), ?_⟩
      refine mx_call (hcb) (by kernel_rfl) ?_ (HSM.out) ?_
      · (go_simp; done)
      rintro e wc ⟨rfl, hb6⟩
      have hcc : Below w4.heap.size w4 wc := hcb.trans (hb6.mono hcb.size)
      clear HSM
      refine ⟨_, rfl, _, (by (simp only [Act.put, List.setIfInBounds_toArray, List.set_cons_zero, List.set_cons_succ]; rfl)), ?_⟩
      refine mx_val (by kernel_rfl) ⟨_, (by (intro w' hC; clear hC; (try go_simp); (try with_reducible rfl); done)), _, (by (simp only [Act.put, List.setIfInBounds_toArray, List.set_cons_zero, List.set_cons_succ]; rfl)), ?_⟩
      refine mx_val (by kernel_rfl) ⟨_, (by (intro w' hC; clear hC; (try go_simp); (try with_reducible rfl); done)), _, (by (simp only [Act.put, List.setIfInBounds_toArray, List.set_cons_zero, List.set_cons_succ]; rfl)), ?_⟩
      refine mx_move _ (by kernel_rfl) rfl ⟨_, (by ((try simp [go_sem]); (try rfl); done)), _, (by (simp only [Act.put, List.setIfInBounds_toArray, List.set_cons_zero, List.set_cons_succ]; rfl)), ?_⟩
      refine mx_move _ (by kernel_rfl) rfl ⟨_, (by ((try simp [go_sem]); (try rfl); done)), _, (by (simp only [Act.put, List.setIfInBounds_toArray, List.set_cons_zero, List.set_cons_succ]; rfl)), ?_⟩
      refine mx_move _ (by kernel_rfl) rfl ⟨_, (by ((try simp [go_sem]); (try rfl); done)), _, (by (simp only [Act.put, List.setIfInBounds_toArray, List.set_cons_zero, List.set_cons_succ]; rfl)), ?_⟩
      refine mx_val (by kernel_rfl) ⟨_, (by (intro w' hC; (have q0 := (y4.below hC).cell 0; have q1 := (y4.below hC).cell 1; simp only [List.getElem?_toArray, List.getElem?_cons_zero, List.getElem?_cons_succ] at q0 q1); clear hC; (try go_simp); (try with_reducible rfl); done)), _, (by (simp only [Act.put, List.setIfInBounds_toArray, List.set_cons_zero, List.set_cons_succ]; rfl)), ?_⟩
      refine mx_move _ (by kernel_rfl) rfl ⟨_, (by ((try simp [go_sem]); (try rfl); done)), _, (by (simp only [Act.put, List.setIfInBounds_toArray, List.set_cons_zero, List.set_cons_succ]; rfl)), ?_⟩
      refine mx_call (hcc) (by kernel_rfl) ?_ (bookGet_any bb mo L 0 p wc (HP4.out.book.below hcc) (by simp only [maxLen]; omega)) ?_
      · (go_simp; done)
      rintro e wd ⟨q5, v5, k5, A6, c6, l6, rfl, hg5, ho5, hb7⟩
      have hcd : Below w4.heap.size w4 wd := hcc.trans (hb7.mono hcc.size)
      refine ⟨_, rfl, _, (by (simp only [Act.put, List.setIfInBounds_toArray, List.set_cons_zero, List.set_cons_succ]; rfl)), ?_⟩
      refine mx_call (hcd) (by kernel_rfl) ?_ (refGet22_any B d M 0 ⟨⟨p⟩⟩ wd (HP4.out.es.below hcd)) ?_
      · (go_simp; done)
      rintro e we ⟨⟨o, rfl, ho⟩, hb8⟩
      have hce : Below w4.heap.size w4 we := hcd.trans (hb8.mono hcd.size)
      have hoo : o.x.ok we (fun _ => True) := by rw [ho.out]; exact find_ok (HP4.out.es.below hce) _
      have HS2 := Lib.hid (refEntrySame_any q5 o.p v5 o.v k5 o.k A6 o.x.A c6 o.x.c l6 o.x.l _ _ we ((ho5.rd).below hb8) hoo.1)
      have hsame : sameE (tl q5) (tl o.p) v5 o.v k5 o.k l6 o.x.l = true := by
        obtain ⟨e1, e2, e3, e4⟩ := hg5.out
        rw [e1, e2, e3, e4, sameE_pl, ho.out, gotE_pl HP4.out.book p, find_ep, HP4.out.plain.out, HP4.out.same.out]
        simp
      rw [hsame] at HS2
      clear hg5 ho5 ho hoo hsame
      refine ⟨_, rfl, _, (by (simp only [Act.put, List.setIfInBounds_toArray, List.set_cons_zero, List.set_cons_succ]; rfl)), ?_⟩
      refine mx_call (hce) (by kernel_rfl) ?_ (HS2.out) ?_
      · (go_simp; done)
      rintro e wf ⟨rfl, hb9⟩
      have hcf : Below w4.heap.size w4 wf := hce.trans (hb9.mono hce.size)
      clear HS2
      refine ⟨_, rfl, _, (by (simp only [Act.put, List.setIfInBounds_toArray, List.set_cons_zero, List.set_cons_succ]; rfl)), ?_⟩
      refine mx_val (by kernel_rfl) ⟨_, (by (intro w' hC; clear hC; (try go_simp); (try with_reducible rfl); done)), _, (by (simp only [Act.put, List.setIfInBounds_toArray, List.set_cons_zero, List.set_cons_succ]; rfl)), ?_⟩
      refine mx_val (by kernel_rfl) ⟨_, (by (intro w' hC; clear hC; (try go_simp); (try with_reducible rfl); done)), _, (by (simp only [Act.put, List.setIfInBounds_toArray, List.set_cons_zero, List.set_cons_succ]; rfl)), ?_⟩
      refine mx_end hcf ?_
      have hw5 := hw4.trans (hcf.mono hw4.size)
      replace y4 := y4.below hcf
      have HP5 := Lib.hid (HP4.out.below hcf)
      clear HP4 hcb hcc hcd hce hcf hb5 hb6 hb7 hb8 hb9 HLM hlmb
      have p0 := y4.cell 0
      have p1 := y4.cell 1
      simp only [List.getElem?_toArray, List.getElem?_cons_zero, List.getElem?_cons_succ] at p0 p1
      have HMP : Hid (∀ x ∈ M, x.p.size ≤ 1048576) := Lib.hid (fun x hx => by
        have h1 := checkP_good (HP5.out.ok.good x.pl (by rw [← HP5.out.same.out]; exact List.mem_map.2 ⟨x, hx, rfl⟩))
        have h2 := goodB_len (userB_good h1.1)
        have h3 : x.pl.1 = tl x.p := rfl
        rw [h3, tl_len] at h2
        omega)
      have hTl : T.length = M.length := by rw [← HP5.out.same.out]; simp
      go_wp2_with fail
      refine (bookRows_any bb mo L 0 p (n % 12) wf HP5.out.book (by omega)).mono ?_
      rintro e w6 ⟨⟨A6, c6, l6, b6, rfl, hl6, ho6⟩, hb6⟩
      rw [HP5.out.plain.out] at hl6
      have hw6 := hw5.trans (hb6.mono hw5.size)
      replace y4 := y4.below hb6
      have HP6 := Lib.hid (HP5.out.below hb6)
      clear p0 p1 HP5 hb6
      have p0 := y4.cell 0
      have p1 := y4.cell 1
      simp only [List.getElem?_toArray, List.getElem?_cons_zero, List.getElem?_cons_succ] at p0 p1
      go_wp2_with fail
      refine (refRows22_any B d M 0 p (n % 12) w6 HP6.out.es (by omega) HMP.out).mono ?_
      rintro e w7 ⟨⟨A7, c7, l7, b7, rfl, hl7, ho7⟩, hb7⟩
      rw [HP6.out.same.out] at hl7
      have hw7 := hw6.trans (hb7.mono hw6.size)
      replace y4 := y4.below hb7
      have HP7 := Lib.hid (HP6.out.below hb7)
      have HO6 := Lib.hid (ho6.below hb7)
      have HO7 := Lib.hid ho7
      obtain ⟨rfl, rfl⟩ : l6 = l7 ∧ b6 = b7 := by
        have := hl6.out.trans hl7.out.symm
        simpa using this
      have hl6l : l6.length ≤ 256 := by
        have := rowsGo_len p (n % 12) T []
        rw [← hl6.out] at this
        simp at this
        omega
      clear p0 p1 HP6 hb7 ho6 ho7 hl6 hl7
      go_wp2_with fail
      go_loopw [91] (fun iv wr => ∃ i : Nat, i ≤ l6.length ∧ iv = .int .i64 (i : Int) ∧ Below w7.heap.size w7 wr) (fun iv _ => l6.length - (intOf iv).toNat)
      case atStart => exact ⟨0, Nat.zero_le _, rfl, Below.refl _ _⟩
      case round =>
        obtain ⟨i, hi, rfl, hb⟩ := hrel
        have hbr := hw7.trans (hb.mono hw7.size)
        by_cases hlt : i < l6.length
        · obtain ⟨b1, off1, hA1, hbb1, c0, c1, c2, c3, c4⟩ := (HO6.out.below hb).at_ hlt
          obtain ⟨b2, off2, hA2, hbb2, f0, f1, f2, f3, f4⟩ := (HO7.out.below hb).at_ hlt
          generalize l6[i] = y at *
          have hba : Below wr.heap.size wr (wr.alloc (.cells #[.string ⟨⟨y.1⟩⟩, .int .i64 y.2.2.1, .int .u64 y.2.1, .int .u64 0, .int .i64 (y.2.2.2.length : Int)] 52)) := (Below.refl _ _).alloc (Nat.le_refl _) _
          have z9 := Blk.new wr 52 #[.string ⟨⟨y.1⟩⟩, .int .i64 y.2.2.1, .int .u64 y.2.1, .int .u64 0, .int .i64 (y.2.2.2.length : Int)]
          have d0 := cellAt hba hbb2 f0
          have d1 := cellAt hba hbb2 f1
          have d2 := cellAt hba hbb2 f2
          have d3 := cellAt hba hbb2 f3
          have d4 := cellAt hba hbb2 f4
          have hbA : b2 < (wr.alloc (.cells #[.string ⟨⟨y.1⟩⟩, .int .i64 y.2.2.1, .int .u64 y.2.1, .int .u64 0, .int .i64 (y.2.2.2.length : Int)] 52)).heap.size := by simp; omega
          have hw9 := hb.trans (hba.mono hb.size)
          have HNE := Lib.hid (fun W => neq_row ⟨⟨y.1⟩⟩ y.2.2.1 y.2.1 (y.2.2.2.length : Int) W)
          subst hA1
          subst hA2
          clear f0 f1 f2 f3 f4
          go_upto_region 13 with (fail)
          generalize wr.alloc (.cells #[.string ⟨⟨y.1⟩⟩, .int .i64 y.2.2.1, .int .u64 y.2.1, .int .u64 0, .int .i64 (y.2.2.2.length : Int)] 52) = w9 at *
          clear hba c0 c1 c2 c3 c4
          refine wp_region_b 6 (by kernel_rfl) (by kernel_rfl) ?_
          simp only [List.take_succ_cons, List.take_zero, List.drop_succ_cons, List.drop_zero]
          refine lb_val (by kernel_rfl) ⟨_, (by (intro w' hC; (have e0 := (z9.below hC).cell 0; have e1 := (z9.below hC).cell 1; have e2 := (z9.below hC).cell 2; have e3 := (z9.below hC).cell 3; have e4 := (z9.below hC).cell 4; simp only [List.getElem?_toArray, List.getElem?_cons_zero, List.getElem?_cons_succ] at e0 e1 e2 e3 e4); clear hC; (try go_simp); (try with_reducible rfl); done)), _, (by (simp only [Act.put, List.setIfInBounds_toArray, List.set_cons_zero, List.set_cons_succ]; rfl)), ?_⟩
          refine lb_move _ (by kernel_rfl) rfl ⟨_, (by ((try simp [go_sem]); (try rfl); done)), _, (by (simp only [Act.put, List.setIfInBounds_toArray, List.set_cons_zero, List.set_cons_succ]; rfl)), ?_⟩
          refine lb_move _ (by kernel_rfl) rfl ⟨_, (by ((try simp [go_sem]); (try rfl); done)), _, (by (simp only [Act.put, List.setIfInBounds_toArray, List.set_cons_zero, List.set_cons_succ]; rfl)), ?_⟩
          refine lb_val (by kernel_rfl) ⟨_, (by (intro w' hC; clear hC; (try go_simp); (try with_reducible rfl); done)), _, (by (simp only [Act.put, List.setIfInBounds_toArray, List.set_cons_zero, List.set_cons_succ]; rfl)), ?_⟩
          refine lb_val (by kernel_rfl) ⟨_, (by (intro w' hC; (have e0 := cellAt hC hbA d0; have e1 := cellAt hC hbA d1; have e2 := cellAt hC hbA d2; have e3 := cellAt hC hbA d3; have e4 := cellAt hC hbA d4); clear hC; (try go_simp); (try with_reducible rfl); done)), _, (by (simp only [Act.put, List.setIfInBounds_toArray, List.set_cons_zero, List.set_cons_succ]; rfl)), ?_⟩
          refine lb_val (by kernel_rfl) ⟨_, (by (intro w' hC; (have q := HNE.out w'); clear hC; (try go_simp); (try with_reducible rfl); done)), _, (by (simp only [Act.put, List.setIfInBounds_toArray, List.set_cons_zero, List.set_cons_succ]; rfl)), ?_⟩
          refine .nil ?_
          intro w10 hb10
          have hw10 := hw9.trans (hb10.mono hw9.size)
          clear hb10 z9 d0 d1 d2 d3 d4
          go_wp2_with fail
          go_roundw
          case rel => exact ⟨i + 1, hlt, by go_num, hw10⟩
          case measure => simp [intOf]; omega
        · have e : i = l6.length := by omega
          subst e
          have hr := bookRows_any bb mo L 0 [] (-1) wr (HP7.out.book.below hb) (by simp)
          rw [HP7.out.plain.out, rows_all] at hr
          have HRR := Lib.hid hr
          replace y4 := y4.below hb
          have hM0 : (!T.isEmpty) = decide (0 < (M.length : Int)) := by
            rcases T with _ | ⟨z, T⟩
            · have : M.length = 0 := by simpa using hTl.symm
              rw [this]; rfl
            · have : M.length = T.length + 1 := by simpa using hTl.symm
              rw [this]; simp
          rw [hM0] at HRR
          have hm2 : decide (0 < M.length) = decide (0 < (M.length : Int)) := by simp
          generalize hmd : decide (0 < (M.length : Int)) = mB at *
          clear hr hM0 HO6 HO7 HP7
          go_wp2_with fail
          refine HRR.out.mono ?_
          rintro e w11 ⟨⟨A8, c8, l8, b8, rfl, hl8, _⟩, hb11⟩
          obtain ⟨rfl, rfl⟩ : l8 = [] ∧ b8 = mB := by simpa using hl8.out
          have hw11 := hbr.trans (hb11.mono hbr.size)
          replace y4 := y4.below hb11
          have p0 := y4.cell 0
          have p1 := y4.cell 1
          simp only [List.getElem?_toArray, List.getElem?_cons_zero, List.getElem?_cons_succ] at p0 p1
          clear hl8 hb11 HRR
          go_wp2_with fail
          refine (lives22_any _).mono ?_
          rintro e w12 ⟨rfl, hb12⟩
          have hw12 := hw11.trans (hb12.mono hw11.size)
          go_wp2_with fail
          go_ret
          exact ⟨rfl, hw12⟩
    · have hp3 : decide ((200 : Int) < (p.length : Int)) = true := decide_eq_true (by omega)
      go_enter Try.func4, Try.ntmps4
      go_wp2_with fail
      refine HL.out.mono ?_
      rintro e w1 ⟨rfl, hw1⟩
      go_wp2_with fail
      refine (lives22_any _).mono ?_
      rintro e w9 ⟨rfl, hb9⟩
      go_wp2_with fail
      go_ret
      exact ⟨rfl, hw1.trans (hb9.mono hw1.size)⟩

end Go.Proofs.Ytdnljmncdbcgeaa
