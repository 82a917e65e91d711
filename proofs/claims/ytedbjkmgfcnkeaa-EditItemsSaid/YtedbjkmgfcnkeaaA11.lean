/- tenderref10: Items. -/
import Derived.Test.YtedbjkmgfcnkeaaA10

namespace Go.Proofs.Ytedbjkmgfcnkeaa
open Go.RowKit Go.Maps


set_option maxRecDepth 100000 in
set_option maxHeartbeats 4000000 in
theorem refItems10_any (B : Option Addr) (d : Nat) (L : List (List UInt8 × LV)) (k : Int) (p t : List UInt8) (dA : Option Addr) (dc : Nat) (dl : List UInt8) (Z : Nat → Prop) (w : World) (h : Its w B L) (hok : TreeOk (plainL L)) (hp : p.length ≤ 1048576) (ht : t.length ≤ 1048576) (hy : BV.ok w Z ⟨dA, dc, dl⟩) (hdl : dl.length ≤ 140737488355328) :
    Calls Try.prog 37 #[.slice B L.length d, .agg #[.int .i64 k, .string ⟨⟨p⟩⟩, .string ⟨⟨t⟩⟩, .slice dA dl.length dc]] w fun e w' => ∃ (A : Option Addr) (c : Nat) (M : List (List UInt8 × LV)), e = .returned (.tuple #[.slice A M.length c, .int .i64 (itemsS (plainL L) k p t dl).2]) ∧ Hid (plainL M = (itemsS (plainL L) k p t dl).1) ∧ Its w' A M ∧ Below w.heap.size w w' := by
  obtain ⟨T, hT⟩ : ∃ T, T = plainL L := ⟨_, rfl⟩
  have hTT : Hid (plainL L = T) := Lib.hid hT.symm
  rw [← hT] at hok ⊢
  obtain ⟨R, hR⟩ : ∃ R, R = itemsS T k p t dl := ⟨_, rfl⟩
  rw [← hR]
  have HR := Lib.hid hR
  have HT := Lib.hid h
  have HY := Lib.hid hy
  have HOK := Lib.hid hok
  have hw0 : Below w.heap.size w (w.alloc (.cells #[.int .i64 k, .string ⟨⟨p⟩⟩, .string ⟨⟨t⟩⟩, .slice dA dl.length dc] 61)) := (by repeat (first | exact Below.refl _ _ | refine Below.alloc ?_ (by simp) _ | refine Below.setCell ?_ (by simp) _ | refine Below.drew ?_))
  have x0 := Blk.new w 61 #[.int .i64 k, .string ⟨⟨p⟩⟩, .string ⟨⟨t⟩⟩, .slice dA dl.length dc]
  have q0 := x0.cell 0
  have q1 := x0.cell 1
  have q2 := x0.cell 2
  have q3 := x0.cell 3
  simp only [List.getElem?_toArray, List.getElem?_cons_zero, List.getElem?_cons_succ] at q0 q1 q2 q3
  obtain ⟨ck, hck⟩ : ∃ ck, ck = checkX k p t dl.length := ⟨_, rfl⟩
  have HCK := Lib.hid (fun W => editCheckR_any k p t dA dl.length dc W (by omega) (by omega) hdl)
  rw [← hck] at HCK
  have HK := Lib.hid hck
  clear h hT hR hok hy hck
  go_enter Try.func37, Try.ntmps37
  go_wp2_with fail
  refine (HCK.out _).mono ?_
  rintro e w1 ⟨rfl, hb1⟩
  have x1 := x0.below hb1
  have hw1 := hw0.trans (hb1.mono hw0.size)
  clear q0 q1 q2 q3 hb1 x0 hw0 HCK
  have q0 := x1.cell 0
  have q1 := x1.cell 1
  have q2 := x1.cell 2
  have q3 := x1.cell 3
  simp only [List.getElem?_toArray, List.getElem?_cons_zero, List.getElem?_cons_succ] at q0 q1 q2 q3
  by_cases hc0 : ck = 0
  · have hk15 : (1 ≤ k ∧ k ≤ 5 ∧ dl.length ≤ 4096) ∧ (k = 5 → goodB p = true ∧ goodB t = true) := by
      have := HK.out
      rw [hc0] at this
      unfold checkX at this
      split at this
      · cases this
      · rename_i h1
        split at this
        · cases this
        · rename_i h2
          split at this
          · cases this
          · refine ⟨by omega, fun h5 => ?_⟩
            rcases hu : userB p with _ | _
            · exact absurd (.inl hu) h1
            · rcases hu2 : userB t with _ | _
              · exact absurd (.inr ⟨h5, hu2⟩) h1
              · exact ⟨user_good hu, user_good hu2⟩
    have HR1 : Hid (R = if (planS T k p t dl).2 ≠ 0 then ([], (planS T k p t dl).2) else if (tryS T (planS T k p t dl).1).2 ≠ 0 then ([], (tryS T (planS T k p t dl).1).2) else ((planS T k p t dl).1, 0)) := Lib.hid (by
      rw [HR.out]; unfold itemsS; rw [← HK.out, if_neg (by simpa using hc0)])
    subst hc0
    have HPL := Lib.hid (planR_any B d L k p t dA dc dl Z w1 (HT.out.below hw1) (by rw [hTT.out]; exact HOK.out) hp ht (HY.out.below hw1) hk15.1.2.2 ⟨hk15.1.1, hk15.1.2.1⟩ hk15.2)
    rw [hTT.out] at HPL
    obtain ⟨S, hS⟩ : ∃ S, S = planS T k p t dl := ⟨_, rfl⟩
    rw [← hS] at HPL HR1
    have hSl := plan_small HOK.out k p t dl hp hk15.1.2.2
    rw [← hS] at hSl
    clear HR HK hS hk15
    go_wp2_with fail
    refine HPL.out.mono ?_
    rintro e w2 ⟨A, c, M, rfl, hM, hO, hb2⟩
    have hw2 := hw1.trans (hb2.mono hw1.size)
    have HO := Lib.hid hO
    have hMl : M.length ≤ 300 := by rw [← plain_len, hM.out]; exact hSl.1
    have HSM : Hid (∀ x ∈ M, x.1.length ≤ 1048576 ∧ x.2.x.l.length ≤ 140737488355328) := Lib.hid (fun x hx => by
      have := hSl.2 (x.1, x.2.p) (by rw [← hM.out]; exact List.mem_map.2 ⟨x, hx, rfl⟩)
      have h2 : x.2.x.l.length ≤ 4096 := this.2
      exact ⟨this.1, by omega⟩)
    clear hO hb2 HPL q0 q1 q2 q3 x1 hSl
    by_cases hs0 : S.2 = 0
    · have HR2 : Hid (R = if (tryS T S.1).2 ≠ 0 then ([], (tryS T S.1).2) else (S.1, 0)) := Lib.hid (by rw [HR1.out, if_neg (by simpa using hs0)])
      rw [hs0]
      rw [← hM.out] at HR2
      clear HR1 hs0 hM
      have HT2 := Lib.hid (HT.out.below hw2)
      go_wp2_with fail
      go_loopw [0, 9] (fun tv iv wr => ∃ (i : Nat) (B2 : Option Addr) (d2 : Nat) (K : List (List UInt8 × LV)), i ≤ M.length ∧ iv = .int .i64 (i : Int) ∧ tv = .slice B2 K.length d2 ∧ Its wr B2 K ∧ Hid (tryS T (plainL (M.take i)) = (plainL K, 0)) ∧ Its wr A M ∧ Below w.heap.size w wr) (fun _ iv _ => M.length - (intOf iv).toNat)
      case atStart => exact ⟨0, B, d, L, Nat.zero_le _, rfl, rfl, HT2.out, by show _ = _; rw [hTT.out]; rfl, HO.out, hw2⟩
      case round =>
        obtain ⟨i, B2, d2, K, hi, rfl, rfl, hK, hn, hOr, hb⟩ := hrel
        by_cases hlt : i < M.length
        · obtain ⟨b, off, hA, hbr, c0, c1, c2⟩ := hOr.at_ hlt
          have hxo := hOr.ok _ (List.getElem_mem hlt)
          have hps : tryS T (plainL (M.take (i + 1))) = (setS (plainL K) M[i].1 M[i].2.p, mayS (plainL K) M[i].1 M[i].2.p) := by rw [plain_snoc M i hlt, try_snoc, hn.out]; rfl
          have hst : mayS (plainL K) M[i].1 M[i].2.p ≠ 0 → tryS T (plainL M) = tryS T (plainL (M.take (i + 1))) := fun h0 => by
            have e : plainL (M.take (i + 1)) = (plainL M).take (i + 1) := by simp [plainL]
            rw [e]
            refine try_stop _ _ _ ?_
            rw [← e, hps]
            exact h0
          have hokK : TreeOk (plainL K) := by have := try_ok T (plainL (M.take i)) HOK.out; rw [hn.out] at this; exact this
          have hxl := HSM.out _ (List.getElem_mem hlt)
          subst hA
          obtain ⟨x, hx⟩ : ∃ x, x = M[i] := ⟨_, rfl⟩
          rw [← hx] at c0 c1 c2 hxo hxl hps hst
          simp only [stv] at c0
          have HPS := Lib.hid hps
          have HST := Lib.hid hst
          have HOR := Lib.hid hOr
          have HS := Lib.hid (fun W (hC : Below wr.heap.size wr W) => refSet_any B2 d2 K x.1 x.2.k x.2.x.A x.2.x.c x.2.x.l W (hK.below hC) hokK (hxo.below hC) hxl.1 hxl.2)
          obtain ⟨ms, hms⟩ : ∃ ms, ms = mayS (plainL K) x.1 (x.2.k, x.2.x.l) := ⟨_, rfl⟩
          have HMS := Lib.hid hms
          have hb' := hb
          rw [← hms] at HS
          clear hK hxo hx hps hst hn hms hOr HO hxl hokK
          go_wp2_with fail
          refine wp_region_m [true, true, true, true, true, true, true, true, true, true, true, false, true, true, true, true, true] (fun W => Below wr.heap.size wr W) (by kernel_rfl) (by kernel_rfl) ?_
          simp only [List.length_cons, List.length_nil, Nat.zero_add, Nat.reduceAdd, List.take_succ_cons, List.take_zero, List.drop_succ_cons, List.drop_zero]
          refine mx_move _ (by kernel_rfl) rfl ⟨_, (by ((try simp [go_sem]); (try rfl); done)), _, (by (simp only [Act.put, List.setIfInBounds_toArray, List.set_cons_zero, List.set_cons_succ]; rfl)), ?_⟩
          refine mx_move _ (by kernel_rfl) rfl ⟨_, (by ((try simp [go_sem]); (try rfl); done)), _, (by (simp only [Act.put, List.setIfInBounds_toArray, List.set_cons_zero, List.set_cons_succ]; rfl)), ?_⟩
          refine mx_move _ (by kernel_rfl) rfl ⟨_, (by ((try simp [go_sem]); (try rfl); done)), _, (by (simp only [Act.put, List.setIfInBounds_toArray, List.set_cons_zero, List.set_cons_succ]; rfl)), ?_⟩
          refine mx_val (by kernel_rfl) ⟨_, (by (intro w' hC; clear hC; (try go_simp); (try with_reducible rfl); done)), _, (by (simp only [Act.put, List.setIfInBounds_toArray, List.set_cons_zero, List.set_cons_succ]; rfl)), ?_⟩
          refine mx_val (by kernel_rfl) ⟨_, (by (intro w' hC; clear hC; (try go_simp); (try with_reducible rfl); done)), _, (by (simp only [Act.put, List.setIfInBounds_toArray, List.set_cons_zero, List.set_cons_succ]; rfl)), ?_⟩
          refine mx_val (by kernel_rfl) ⟨_, (by (intro w' hC; (have q := cellAt hC hbr c0); clear hC; (try go_simp); (try with_reducible rfl); done)), _, (by (simp only [Act.put, List.setIfInBounds_toArray, List.set_cons_zero, List.set_cons_succ]; rfl)), ?_⟩
          refine mx_move _ (by kernel_rfl) rfl ⟨_, (by ((try simp [go_sem]); (try rfl); done)), _, (by (simp only [Act.put, List.setIfInBounds_toArray, List.set_cons_zero, List.set_cons_succ]; rfl)), ?_⟩
          refine mx_move _ (by kernel_rfl) rfl ⟨_, (by ((try simp [go_sem]); (try rfl); done)), _, (by (simp only [Act.put, List.setIfInBounds_toArray, List.set_cons_zero, List.set_cons_succ]; rfl)), ?_⟩
          refine mx_val (by kernel_rfl) ⟨_, (by (intro w' hC; clear hC; (try go_simp); (try with_reducible rfl); done)), _, (by (simp only [Act.put, List.setIfInBounds_toArray, List.set_cons_zero, List.set_cons_succ]; rfl)), ?_⟩
          refine mx_val (by kernel_rfl) ⟨_, (by (intro w' hC; clear hC; (try go_simp); (try with_reducible rfl); done)), _, (by (simp only [Act.put, List.setIfInBounds_toArray, List.set_cons_zero, List.set_cons_succ]; rfl)), ?_⟩
          refine mx_val (by kernel_rfl) ⟨_, (by (intro w' hC; (have q := cellAt hC hbr c1; have q2 := cellAt hC hbr c2); clear hC; (try go_simp); (try with_reducible rfl); done)), _, (by (simp only [Act.put, List.setIfInBounds_toArray, List.set_cons_zero, List.set_cons_succ]; rfl)), ?_⟩
          refine mx_call ((Below.refl _ _).drew) (by kernel_rfl) ?_ (HS.out _ (Below.refl _ _).drew) ?_
          · (go_simp; done)
          rintro e w4 ⟨B3, d3, L3, rfl, hL3, hI3, hb4⟩
          replace hb4 : Below wr.heap.size wr w4 := (Below.refl _ _).drew.trans (hb4.mono (Nat.le_refl _))
          refine ⟨_, rfl, _, (by (simp only [Act.put, List.setIfInBounds_toArray, List.set_cons_zero, List.set_cons_succ]; rfl)), ?_⟩
          refine mx_move _ (by kernel_rfl) rfl ⟨_, (by ((try simp [go_sem]); (try rfl); done)), _, (by (simp only [Act.put, List.setIfInBounds_toArray, List.set_cons_zero, List.set_cons_succ]; rfl)), ?_⟩
          refine mx_val (by kernel_rfl) ⟨_, (by (intro w' hC; clear hC; (try go_simp); (try with_reducible rfl); done)), _, (by (simp only [Act.put, List.setIfInBounds_toArray, List.set_cons_zero, List.set_cons_succ]; rfl)), ?_⟩
          refine mx_val (by kernel_rfl) ⟨_, (by (intro w' hC; clear hC; (try go_simp); (try with_reducible rfl); done)), _, (by (simp only [Act.put, List.setIfInBounds_toArray, List.set_cons_zero, List.set_cons_succ]; rfl)), ?_⟩
          refine mx_assign _ (by kernel_rfl) rfl ⟨_, (by ((try simp [go_sem]); (try rfl); done)), _, (by (simp only [Act.put, List.setIfInBounds_toArray, List.set_cons_zero, List.set_cons_succ]; rfl)), ?_⟩
          refine mx_assign _ (by kernel_rfl) rfl ⟨_, (by ((try simp [go_sem]); (try rfl); done)), _, (by (simp only [Act.put, List.setIfInBounds_toArray, List.set_cons_zero, List.set_cons_succ]; rfl)), ?_⟩
          refine mx_end hb4 ?_
          have hw4 := hb'.trans (hb4.mono hb'.size)
          have HO4 := Lib.hid (HOR.out.below hb4)
          have HI3 := Lib.hid hI3
          have HL3 := Lib.hid hL3
          clear hI3 hL3 hb4 c0 c1 c2 HS HOR
          by_cases hm0 : ms = 0
          · have HN2 : Hid (tryS T (plainL (M.take (i + 1))) = (plainL L3, 0)) := Lib.hid (by
              have h5 := plain_step K x.1 x.2
              rw [show x.2.p = (x.2.k, x.2.x.l) from rfl, ← HMS.out] at h5
              rw [HPS.out]
              refine Prod.ext ?_ (HMS.out.symm.trans hm0)
              show setS (plainL K) x.1 (x.2.k, x.2.x.l) = plainL L3
              rw [← h5, HL3.out.out])
            subst hm0
            clear HPS HST HMS HL3
            go_wp2_with fail
            go_roundw
            case rel => exact ⟨i + 1, B3, d3, L3, hlt, by go_num, rfl, HI3.out, HN2, HO4.out, hw4⟩
            case measure => simp [intOf]; omega
          · have hmb : (ms != 0) = true := by simpa using hm0
            have hT2 : (tryS T (plainL M)).2 = ms := by
              rw [HST.out (by rw [show x.2.p = (x.2.k, x.2.x.l) from rfl, ← HMS.out]; exact hm0), HPS.out, HMS.out]; rfl
            obtain rfl : R = ([], ms) := by rw [HR2.out, hT2, if_pos hm0]
            clear HPS HST HMS hT2 HR2 HL3
            go_wp2_with fail
            go_ret2
            exact ⟨none, 0, [], rfl, rfl, Its.nil _, hw4⟩
        · have e : i = M.length := by omega
          subst e
          rw [List.take_length] at hn
          obtain rfl : R = (plainL M, 0) := by rw [HR2.out, hn.out, if_neg (by simp)]
          clear HR2 hn
          go_wp2_with fail
          go_ret2
          exact ⟨A, c, M, rfl, rfl, hOr, hb⟩
    · have hsb : (S.2 != 0) = true := by simpa using hs0
      obtain rfl : R = ([], S.2) := by rw [HR1.out, if_pos hs0]
      clear HR1 HO hM
      go_wp2_with fail
      go_ret2
      exact ⟨none, 0, [], rfl, rfl, Its.nil _, hw2⟩
  · have hcb : (ck != 0) = true := by simpa using hc0
    obtain rfl : R = ([], ck) := by rw [HR.out]; unfold itemsS; rw [← HK.out, if_pos hc0]
    clear HR HK
    go_wp2_with fail
    go_ret2
    exact ⟨none, 0, [], rfl, rfl, Its.nil _, hw1⟩

end Go.Proofs.Ytedbjkmgfcnkeaa

/- EditItems is true for every input: what any edit sets on any tree, or why it can't be, is the document's; the tree stays as it was. No condition beyond the row's own. -/
namespace Go.Proofs.Ytedbjkmgfcnkeaa
open Go.RowKit Go.Maps

theorem items_small {T : List (List UInt8 × LP)} (h : TreeOk T) (k : Int) (p t d : List UInt8) (hp : p.length ≤ 1048576) : (itemsS T k p t d).1.length ≤ 300 ∧ ∀ x ∈ (itemsS T k p t d).1, x.1.length ≤ 1048576 ∧ x.2.2.length ≤ 4096 := by
  unfold itemsS
  split
  · simp
  · rename_i h1
    split
    · simp
    · split
      · simp
      · refine plan_small h k p t d hp ?_
        by_cases h4 : 4096 < d.length
        · exfalso
          apply h1
          unfold checkX
          split
          · decide
          · split
            · decide
            · first | decide | (rw [if_pos h4]; decide)
        · omega
theorem edit_one {w : World} {x : XV} (h : x.ok w (fun b => b < w.heap.size)) : EdA (w.alloc (.cells #[.int .i64 x.k, .string ⟨⟨x.p⟩⟩, .string ⟨⟨x.t⟩⟩, .slice x.d.A x.d.l.length x.d.c] 61)) (some ⟨w.heap.size, 0, none⟩) [x] := by
  refine ⟨(Rd.lit (w := w) (t := 61) (size := 4) (n := 1) (xs := [x].flatMap XV.cells) rfl rfl rfl).mono (fun b hb hz => ?_), ?_, by simp⟩
  · simpa using hb
  · intro y hy
    rw [List.mem_singleton.1 hy]
    exact h.below ((Below.refl _ _).alloc (Nat.le_refl _) _)

set_option maxRecDepth 100000 in
set_option maxHeartbeats 2000000 in
theorem editItems_any (A : Option Addr) (c : Nat) (l : List (List UInt8 × LV)) (x : XV) (w : World) (h : ItA w A l) (hx : x.ok w (fun b => b < w.heap.size)) :
    Calls Try.prog 7 #[.slice A l.length c, .agg #[.int .i64 x.k, .string ⟨⟨x.p⟩⟩, .string ⟨⟨x.t⟩⟩, .slice x.d.A x.d.l.length x.d.c]] w fun e w' => e = .returned (.bool true) ∧ Below w.heap.size w w' := by
  have hw0 : Below w.heap.size w (w.alloc (.cells #[.int .i64 x.k, .string ⟨⟨x.p⟩⟩, .string ⟨⟨x.t⟩⟩, .slice x.d.A x.d.l.length x.d.c] 61)) := (by repeat (first | exact Below.refl _ _ | refine Below.alloc ?_ (by simp) _ | refine Below.setCell ?_ (by simp) _ | refine Below.drew ?_))
  have x0 := Blk.new w 61 #[.int .i64 x.k, .string ⟨⟨x.p⟩⟩, .string ⟨⟨x.t⟩⟩, .slice x.d.A x.d.l.length x.d.c]
  have HL := Lib.hid (lightI_any A c l _ (h.below hw0))
  have HA := Lib.hid (h.below hw0)
  have HX := Lib.hid (hx.below hw0)
  obtain ⟨tX, htX⟩ : ∃ tX, tX = w.heap.size := ⟨_, rfl⟩
  clear h hx
  rcases hli : lightI l with _ | _
  · rw [hli] at HL
    go_enter Try.func7, Try.ntmps7
    go_wp2_with fail
    refine HL.out.mono ?_
    rintro e w1 ⟨rfl, hb1⟩
    have hw1 := hw0.trans (hb1.mono hw0.size)
    clear x0 HA HX
    go_wp2_with fail
    refine (lives10_any _).mono ?_
    rintro e w9 ⟨rfl, hb9⟩
    go_wp2_with fail
    go_ret
    exact ⟨rfl, hw1.trans (hb9.mono hw1.size)⟩
  · rw [hli] at HL
    have hll := lightI_len hli
    go_enter Try.func7, Try.ntmps7
    go_wp2_with fail
    refine HL.out.mono ?_
    rintro e w1 ⟨rfl, hb1⟩
    have hw1 := hw0.trans (hb1.mono hw0.size)
    have x1 := x0.below hb1
    have HA1 := Lib.hid (HA.out.below hb1)
    have HX1 := Lib.hid (HX.out.below hb1)
    have HL1 := Lib.hid (lightX_any _ 1 [x] _ (edit_one HX1.out))
    have hba : Below w1.heap.size w1 (w1.alloc (.cells #[.int .i64 x.k, .string ⟨⟨x.p⟩⟩, .string ⟨⟨x.t⟩⟩, .slice x.d.A x.d.l.length x.d.c] 61)) := (Below.refl _ _).alloc (Nat.le_refl _) _
    have hw1a := hw1.trans (hba.mono hw1.size)
    have x1a := x1.below hba
    have q0 := x1.cell 0
    have q1 := x1.cell 1
    have q2 := x1.cell 2
    have q3 := x1.cell 3
    simp only [List.getElem?_toArray, List.getElem?_cons_zero, List.getElem?_cons_succ] at q0 q1 q2 q3
    clear x0 HA HX hb1 HL
    rcases hlx : lightX [x] with _ | _
    · rw [hlx] at HL1
      go_wp2_with fail
      refine HL1.out.mono ?_
      rintro e w2 ⟨rfl, hb2⟩
      have hw2 := hw1a.trans (hb2.mono hw1a.size)
      clear q0 q1 q2 q3 x1 x1a
      go_wp2_with fail
      refine (lives10_any _).mono ?_
      rintro e w9 ⟨rfl, hb9⟩
      go_wp2_with fail
      go_ret
      exact ⟨rfl, hw2.trans (hb9.mono hw2.size)⟩
    · rw [hlx] at HL1
      have hxl := (lightX_len hlx).2 x (by simp)
      obtain ⟨hxp, hxt, hxd⟩ := hxl
      go_wp2_with fail
      refine HL1.out.mono ?_
      rintro e w2 ⟨rfl, hb2⟩
      have hw2 := hw1a.trans (hb2.mono hw1a.size)
      have x2 := x1a.below hb2
      have HA2 := Lib.hid ((HA1.out.below hba).below hb2)
      have HX2 := Lib.hid ((HX1.out.below hba).below hb2)
      clear q0 q1 q2 q3 x1 x1a hb2 hba HA1 HX1 HL1 hw1 hw1a
      go_wp2_with fail
      refine (plays08_any A c l w2 HA2.out hll).mono ?_
      rintro e w3 ⟨tb, mo, L, B, d, M, rfl, hP, htb, hmo, hb3⟩
      have hw3 := hw2.trans (hb3.mono hw2.size)
      have x3 := x2.below hb3
      have HX3 := Lib.hid (HX2.out.below hb3)
      have HP := Lib.hid hP
      have HOK : Hid (TreeOk (playS [] (plainL l))) := Lib.hid (by rw [← hP.plain.out]; exact hP.tree.plain)
      obtain ⟨ck, hck⟩ : ∃ ck, ck = checkX x.k x.p x.t x.d.l.length := ⟨_, rfl⟩
      have HC1 := Lib.hid (fun W => editCheck_any x.k x.p x.t x.d.A x.d.l.length x.d.c W (by omega) (by omega) HX3.out.len)
      have HC2 := Lib.hid (fun W => editCheckR_any x.k x.p x.t x.d.A x.d.l.length x.d.c W (by omega) (by omega) HX3.out.len)
      rw [← hck] at HC1 HC2
      generalize playS [] (plainL l) = T at *
      clear hP hb3 hll hli hlx htb hmo HA2 HX2 hck x2 hw2
      have x2 := x3
      clear x3
      go_wp2_with fail
      refine wp_region_b 9 (by kernel_rfl) (by kernel_rfl) ?_
      simp only [List.take_succ_cons, List.take_zero, List.drop_succ_cons, List.drop_zero]
      refine lb_move _ (by kernel_rfl) rfl ⟨_, (by ((try simp [go_sem]); (try rfl); done)), _, (by (simp only [Act.put, List.setIfInBounds_toArray, List.set_cons_zero, List.set_cons_succ]; rfl)), ?_⟩
      refine lb_val (by kernel_rfl) ⟨_, (by (intro w' hC; clear hC; (try go_simp); (try with_reducible rfl); done)), _, (by (simp only [Act.put, List.setIfInBounds_toArray, List.set_cons_zero, List.set_cons_succ]; rfl)), ?_⟩
      refine lb_move _ (by kernel_rfl) rfl ⟨_, (by ((try simp [go_sem]); (try rfl); done)), _, (by (simp only [Act.put, List.setIfInBounds_toArray, List.set_cons_zero, List.set_cons_succ]; rfl)), ?_⟩
      first | (refine lb_skip (by rfl) ⟨_, (by (simp only [Act.put, List.setIfInBounds_toArray, List.set_cons_zero, List.set_cons_succ]; rfl)), ?_⟩) | (refine lb_val (by kernel_rfl) ⟨_, (by (intro w' hC; (have q0 := (x2.below hC).cell 0; have q1 := (x2.below hC).cell 1; have q2 := (x2.below hC).cell 2; have q3 := (x2.below hC).cell 3; simp only [List.getElem?_toArray, List.getElem?_cons_zero, List.getElem?_cons_succ] at q0 q1 q2 q3); clear hC; (try go_simp); (try with_reducible rfl); done)), _, (by (simp only [Act.put, List.setIfInBounds_toArray, List.set_cons_zero, List.set_cons_succ]; rfl)), ?_⟩)
      first | (refine lb_skip (by rfl) ⟨_, (by (simp only [Act.put, List.setIfInBounds_toArray, List.set_cons_zero, List.set_cons_succ]; rfl)), ?_⟩) | (refine lb_call (by kernel_rfl) (fun w' hC => HC1.out w') (by (intro w'; go_simp; done)) ⟨_, (by (simp only [Act.put, List.setIfInBounds_toArray, List.set_cons_zero, List.set_cons_succ]; rfl)), ?_⟩)
      first | (refine lb_skip (by rfl) ⟨_, (by (simp only [Act.put, List.setIfInBounds_toArray, List.set_cons_zero, List.set_cons_succ]; rfl)), ?_⟩) | (refine lb_val (by kernel_rfl) ⟨_, (by (intro w' hC; (have q0 := (x2.below hC).cell 0; have q1 := (x2.below hC).cell 1; have q2 := (x2.below hC).cell 2; have q3 := (x2.below hC).cell 3; simp only [List.getElem?_toArray, List.getElem?_cons_zero, List.getElem?_cons_succ] at q0 q1 q2 q3); clear hC; (try go_simp); (try with_reducible rfl); done)), _, (by (simp only [Act.put, List.setIfInBounds_toArray, List.set_cons_zero, List.set_cons_succ]; rfl)), ?_⟩)
      first | (refine lb_skip (by rfl) ⟨_, (by (simp only [Act.put, List.setIfInBounds_toArray, List.set_cons_zero, List.set_cons_succ]; rfl)), ?_⟩) | (refine lb_call (by kernel_rfl) (fun w' hC => HC2.out w') (by (intro w'; go_simp; done)) ⟨_, (by (simp only [Act.put, List.setIfInBounds_toArray, List.set_cons_zero, List.set_cons_succ]; rfl)), ?_⟩)
      first | (refine lb_skip (by rfl) ⟨_, (by (simp only [Act.put, List.setIfInBounds_toArray, List.set_cons_zero, List.set_cons_succ]; rfl)), ?_⟩) | (refine lb_val (by kernel_rfl) ⟨_, (by (intro w' hC; clear hC; (try go_simp); (try with_reducible rfl); done)), _, (by (simp only [Act.put, List.setIfInBounds_toArray, List.set_cons_zero, List.set_cons_succ]; rfl)), ?_⟩)
      refine lb_val (by kernel_rfl) ⟨_, (by (intro w' hC; clear hC; (try go_simp); (try with_reducible rfl); done)), _, (by (simp only [Act.put, List.setIfInBounds_toArray, List.set_cons_zero, List.set_cons_succ]; rfl)), ?_⟩
      refine .nil ?_
      intro w4 hb4
      have hw4 := hw3.trans (hb4.mono hw3.size)
      have x4 := x2.below hb4
      have HX4 := Lib.hid (HX3.out.below hb4)
      have HP4 := Lib.hid (HP.out.below hb4)
      have q0 := x4.cell 0
      have q1 := x4.cell 1
      have q2 := x4.cell 2
      have q3 := x4.cell 3
      simp only [List.getElem?_toArray, List.getElem?_cons_zero, List.getElem?_cons_succ] at q0 q1 q2 q3
      have HI := Lib.hid (items_any tb mo L x.k x.p x.t x.d.A x.d.c x.d.l (fun b => b < w4.heap.size) w4 HP4.out.tree (by omega) (by omega) HX4.out.d.1 HX4.out.len)
      rw [HP4.out.plain.out] at HI
      clear HC1 HC2 x2 HX3 HP hb4
      go_wp2_with fail
      refine HI.out.mono ?_
      rintro e w5 ⟨A5, c5, M5, rfl, hM5, hO5, hb5⟩
      have hw5 := hw4.trans (hb5.mono hw4.size)
      have x5 := x4.below hb5
      have HX5 := Lib.hid (HX4.out.below hb5)
      have HP5 := Lib.hid (HP4.out.below hb5)
      have hsm := items_small HOK.out x.k x.p x.t x.d.l (by omega)
      have HI5 := Lib.hid (hO5.itsS hM5 hsm.2 hsm.1)
      have HM5 := Lib.hid hM5
      clear q0 q1 q2 q3 HI x4 HX4 HP4 hb5 hM5 hO5 hsm
      have q0 := x5.cell 0
      have q1 := x5.cell 1
      have q2 := x5.cell 2
      have q3 := x5.cell 3
      simp only [List.getElem?_toArray, List.getElem?_cons_zero, List.getElem?_cons_succ] at q0 q1 q2 q3
      have HR := Lib.hid (refItems10_any B d M x.k x.p x.t x.d.A x.d.c x.d.l (fun b => b < w5.heap.size) w5 HP5.out.its (by rw [HP5.out.same.out]; exact HOK.out) (by omega) (by omega) HX5.out.d HX5.out.len)
      rw [HP5.out.same.out] at HR
      go_wp2_with fail
      refine HR.out.mono ?_
      rintro e w6 ⟨A6, c6, M6, rfl, hM6, hI6, hb6⟩
      have hw6 := hw5.trans (hb6.mono hw5.size)
      have HP6 := Lib.hid (HP5.out.below hb6)
      have HI56 := Lib.hid (HI5.out.below hb6)
      have HI6 := Lib.hid hI6
      have hsm := refSame08_any A5 A6 c5 c6 M5 M6 w6 HI56.out hI6
      rw [HM5.out.out, hM6.out, show ∀ (z : List (List UInt8 × LP)), decide (z = z) = true from fun z => by simp] at hsm
      have HSM := Lib.hid hsm
      generalize itemsS T x.k x.p x.t x.d.l = R at *
      clear q0 q1 q2 q3 HR x5 HX5 HP5 hb6 hM6 hI6 HM5 HI5 hsm
      go_wp2_with fail
      refine HSM.out.mono ?_
      rintro e w7 ⟨rfl, hb7⟩
      have hw7 := hw6.trans (hb7.mono hw6.size)
      have HP7 := Lib.hid (HP6.out.below hb7)
      clear HSM HI56 HI6 HP6 hb7
      go_wp2_with fail
      refine (treeItems_any sortsT tb mo L w7 HP7.out.tree).mono ?_
      rintro e w8 ⟨A8, c8, M8, rfl, hM8, hO8, hb8⟩
      have hw8 := hw7.trans (hb8.mono hw7.size)
      have HP8 := Lib.hid (HP7.out.below hb8)
      have hM8' : Hid (plainL M8 = T) := Lib.hid (hM8.out.trans HP8.out.plain.out)
      have HI8 := Lib.hid (hO8.itsT hM8' HOK.out)
      have hsm := refSame08_any A8 B c8 d M8 M w8 HI8.out HP8.out.its
      rw [hM8'.out, HP8.out.same.out, show decide (T = T) = true by simp] at hsm
      have HSM := Lib.hid hsm
      clear hsm hM8 hO8 hb8 HP7 hM8'
      go_wp2_with fail
      refine HSM.out.mono ?_
      rintro e w10 ⟨rfl, hb10⟩
      have hw10 := hw8.trans (hb10.mono hw8.size)
      clear HSM HI8 HP8 hb10
      go_wp2_with fail
      refine (lives10_any _).mono ?_
      rintro e w9 ⟨rfl, hb9⟩
      go_wp2_with fail
      go_ret
      exact ⟨rfl, hw10.trans (hb9.mono hw10.size)⟩

end Go.Proofs.Ytedbjkmgfcnkeaa
