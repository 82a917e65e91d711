/- slices.symMergeCmpFunc at changes. -/
import Derived.Test.YtkeledbgmpienaaGreatA14

namespace Go.Proofs.YtkeledbgmpienaaGreat
open Go.RowKit Go.WideShapes Go.ChangeShapes Go.ChangeAt

theorem half_i64 (i j h : Nat) (hh : h = (i + j) / 2) : ((i : Int) + (j : Int)) / 2 = (h : Int) := by omega

set_option maxRecDepth 100000 in
set_option maxHeartbeats 2000000 in
theorem symOne_any (A : Option Addr) (c a m b N base : Nat) (P : List CV) (x : CV) (R Q : List CV) (w : World) (h : RowC w base A c (P ++ [x] ++ R ++ Q)) (hN : N = (P ++ [x] ++ R ++ Q).length) (hP : P.length = a) (hm : a + 1 = m) (hb : m + R.length = b) (hR : SortedC ltC R) (hp : ∀ y ∈ [x] ++ R, y.p.size ≤ 140737488355328) (hl : N ≤ 1000000) :
    Calls Tryz.prog 70 #[.slice A N c, .int .i64 (a : Int), .int .i64 (m : Int), .int .i64 (b : Int), .func (.func 33) #[] #[]] w fun e w' => e = .returned (.tuple #[]) ∧ RowC w' base A c (P ++ sortC ltC ([x] ++ R) ++ Q) ∧ Fr (fun g => ablk A = some g) w w' := by
  have hbN : b ≤ N := by rw [hN]; simp only [List.length_append, List.length_singleton]; omega
  have hwm : IntKind.i64.wrap ((m : Int) - (a : Int)) = 1 := by rw [IntKind.wrap_i64]; omega
  have hmN : m ≤ N := by omega
  have haN : a < N := by omega
  have HMA : Hid (m = a + 1) := Lib.hid hm.symm
  have hgx : (P ++ [x] ++ R ++ Q)[a]? = some x := by
    have := four_get1 (P := P) (L := [x]) (R := R) (Q := Q) (i := 0) hP (by simp)
    simpa using this
  have HGR : Hid (∀ k, k < R.length → (P ++ [x] ++ R ++ Q)[m + k]? = R[k]?) := Lib.hid (fun k hk => four_get2 hP hm hk)
  have HB := Lib.hid hb
  have HP := Lib.hid hP
  have HS := Lib.hid hR
  have HPS := Lib.hid hp
  have hxp := hp x (by simp)
  have HN := Lib.hid hN
  obtain ⟨X, hX⟩ : ∃ X, X = P ++ [x] ++ R ++ Q := ⟨_, rfl⟩
  have HX := Lib.hid hX
  rw [← hX] at h hgx HGR HN
  obtain ⟨TT, hT⟩ : ∃ TT, TT = P ++ sortC ltC ([x] ++ R) ++ Q := ⟨_, rfl⟩
  have HT := Lib.hid hT
  rw [← hT]
  obtain ⟨g, off, rfl, _, hgb⟩ := h.addr (by rw [← HN.out]; omega)
  have hx9 := h.get hgx
  have HR := Lib.hid h
  have hHN0 := HN.out
  have hmb : m ≤ b := by omega
  clear h hN hP hm hb hR hp hX hT hgx hHN0
  go_enter Tryz.func70, Tryz.ntmps70
  go_wp2_with fail
  go_loopw [10, 11, 12] (fun iv jv _ wr => ∃ (i j : Nat), m ≤ i ∧ i ≤ j ∧ j ≤ b ∧ iv = .int .i64 (i : Int) ∧ jv = .int .i64 (j : Int) ∧ Hid (∀ k y, m + k < i → R[k]? = some y → ltC y x = true) ∧ Hid (∀ k y, j ≤ m + k → R[k]? = some y → ltC y x = false) ∧ Below w.heap.size w wr) (fun iv jv _ _ => (intOf jv).toNat - (intOf iv).toNat)
  case atStart => exact ⟨m, b, Nat.le_refl _, by have := HB.out; omega, Nat.le_refl _, rfl, rfl, Lib.hid (fun k y hk => absurd hk (by omega)), Lib.hid (fun k y hk hy => by have := (List.getElem?_eq_some_iff.1 hy).1; have := HB.out; omega), Below.refl _ _⟩
  case round =>
    obtain ⟨i, j, hmi, hij, hjb, rfl, rfl, HLo, HHi, hbw⟩ := hrel
    by_cases hlt : i < j
    · obtain ⟨h, hhd⟩ : ∃ q : Nat, q = (i + j) / 2 := ⟨_, rfl⟩
      have HHD := Lib.hid hhd
      have hh1 := half_i64 i j h hhd
      have hhi : i ≤ h := by omega
      have hhj : h < j := by omega
      have hhN : h < N := by omega
      obtain ⟨y, hy⟩ : ∃ y, R[h - m]? = some y := ⟨_, List.getElem?_eq_getElem (by have := HB.out; omega)⟩
      have hyX : X[h]? = some y := by
        have := HGR.out (h - m) (by have := HB.out; omega)
        rw [show m + (h - m) = h by omega] at this
        rw [this, hy]
      have HY := Lib.hid hy
      have hyp := HPS.out y (by rw [List.mem_append]; exact .inr (List.mem_of_getElem? hy))
      have hy9 := RowC.get (HR.out.below hbw) hyX
      replace hx9 := hx9.below hgb hbw
      replace hgb := Nat.lt_of_lt_of_le hgb hbw.size
      have HCM := Lib.hid (fun W (_ : Below wr.heap.size wr W) => cmpC_any y x hyp hxp W)
      clear hy hyX hhd
      by_cases hlx : cmpT (tl y.p) (tl x.p) < 0
      · have hld : decide (cmpT (tl y.p) (tl x.p) < 0) = true := decide_eq_true hlx
        have HLX : Hid (ltC y x = true) := Lib.hid hld
        have HLo2 : Hid (∀ k y, m + k < h + 1 → R[k]? = some y → ltC y x = true) := Lib.hid (fun k z hk hz => by
          have h1 : ltC y z = false := HS.out.le ordC hz HY.out (by omega)
          rcases ordC.neg _ z _ HLX.out with g | g
          · rw [h1] at g; cases g
          · exact g)
        go_wp2_with fail
        refine wp_region_b 11 (by kernel_rfl) (by kernel_rfl) ?_
        simp only [List.take_succ_cons, List.take_zero, List.drop_succ_cons, List.drop_zero]
        refine lb_move _ (by kernel_rfl) rfl ⟨_, (by ((try simp [go_sem]); (try rfl); done)), _, (by (simp only [Act.put, List.setIfInBounds_toArray, List.set_cons_zero, List.set_cons_succ]; rfl)), ?_⟩
        refine lb_move _ (by kernel_rfl) rfl ⟨_, (by ((try simp [go_sem]); (try rfl); done)), _, (by (simp only [Act.put, List.setIfInBounds_toArray, List.set_cons_zero, List.set_cons_succ]; rfl)), ?_⟩
        refine lb_move _ (by kernel_rfl) rfl ⟨_, (by ((try simp [go_sem]); (try rfl); done)), _, (by (simp only [Act.put, List.setIfInBounds_toArray, List.set_cons_zero, List.set_cons_succ]; rfl)), ?_⟩
        refine lb_val (by kernel_rfl) ⟨_, (by (intro w' hC; clear hC; (try go_simp); (try with_reducible rfl); done)), _, (by (simp only [Act.put, List.setIfInBounds_toArray, List.set_cons_zero, List.set_cons_succ]; rfl)), ?_⟩
        refine lb_val (by kernel_rfl) ⟨_, (by (intro w' hC; (obtain ⟨y0, y1, y2, y3, y4, y5, y6, y7, y8⟩ := hy9.below hgb hC); clear hC; (try go_simp); (try with_reducible rfl); done)), _, (by (simp only [Act.put, List.setIfInBounds_toArray, List.set_cons_zero, List.set_cons_succ]; rfl)), ?_⟩
        refine lb_move _ (by kernel_rfl) rfl ⟨_, (by ((try simp [go_sem]); (try rfl); done)), _, (by (simp only [Act.put, List.setIfInBounds_toArray, List.set_cons_zero, List.set_cons_succ]; rfl)), ?_⟩
        refine lb_move _ (by kernel_rfl) rfl ⟨_, (by ((try simp [go_sem]); (try rfl); done)), _, (by (simp only [Act.put, List.setIfInBounds_toArray, List.set_cons_zero, List.set_cons_succ]; rfl)), ?_⟩
        refine lb_val (by kernel_rfl) ⟨_, (by (intro w' hC; clear hC; (try go_simp); (try with_reducible rfl); done)), _, (by (simp only [Act.put, List.setIfInBounds_toArray, List.set_cons_zero, List.set_cons_succ]; rfl)), ?_⟩
        refine lb_val (by kernel_rfl) ⟨_, (by (intro w' hC; (obtain ⟨x0, x1, x2, x3, x4, x5, x6, x7, x8⟩ := hx9.below hgb hC); clear hC; (try go_simp); (try with_reducible rfl); done)), _, (by (simp only [Act.put, List.setIfInBounds_toArray, List.set_cons_zero, List.set_cons_succ]; rfl)), ?_⟩
        refine lb_call (by kernel_rfl) (fun w' hC => HCM.out w' hC) (by (intro w'; go_simp; done)) ⟨_, (by (simp only [Act.put, List.setIfInBounds_toArray, List.set_cons_zero, List.set_cons_succ]; rfl)), ?_⟩
        refine lb_val (by kernel_rfl) ⟨_, (by (intro w' hC; clear hC; (try go_simp); (try with_reducible rfl); done)), _, (by (simp only [Act.put, List.setIfInBounds_toArray, List.set_cons_zero, List.set_cons_succ]; rfl)), ?_⟩
        refine .nil ?_
        intro w2 hb2
        have hbw2 := hbw.trans (hb2.mono hbw.size)
        clear hx9 hy9 HCM hb2 hbw
        go_wp2_with fail
        go_roundw
        case rel => exact ⟨h + 1, j, by omega, by omega, hjb, by go_num, rfl, HLo2, HHi, hbw2⟩
        case measure => have := HHD.out; simp [intOf]; omega
      · have hld : decide (cmpT (tl y.p) (tl x.p) < 0) = false := decide_eq_false hlx
        have HLX : Hid (ltC y x = false) := Lib.hid hld
        have HHi2 : Hid (∀ k y, h ≤ m + k → R[k]? = some y → ltC y x = false) := Lib.hid (fun k z hk hz => by
          have h1 : ltC z y = false := HS.out.le ordC HY.out hz (by omega)
          cases hh : ltC z x
          · rfl
          · rcases ordC.neg _ y _ hh with g | g
            · rw [h1] at g; cases g
            · rw [HLX.out] at g; cases g)
        go_wp2_with fail
        refine wp_region_b 11 (by kernel_rfl) (by kernel_rfl) ?_
        simp only [List.take_succ_cons, List.take_zero, List.drop_succ_cons, List.drop_zero]
        refine lb_move _ (by kernel_rfl) rfl ⟨_, (by ((try simp [go_sem]); (try rfl); done)), _, (by (simp only [Act.put, List.setIfInBounds_toArray, List.set_cons_zero, List.set_cons_succ]; rfl)), ?_⟩
        refine lb_move _ (by kernel_rfl) rfl ⟨_, (by ((try simp [go_sem]); (try rfl); done)), _, (by (simp only [Act.put, List.setIfInBounds_toArray, List.set_cons_zero, List.set_cons_succ]; rfl)), ?_⟩
        refine lb_move _ (by kernel_rfl) rfl ⟨_, (by ((try simp [go_sem]); (try rfl); done)), _, (by (simp only [Act.put, List.setIfInBounds_toArray, List.set_cons_zero, List.set_cons_succ]; rfl)), ?_⟩
        refine lb_val (by kernel_rfl) ⟨_, (by (intro w' hC; clear hC; (try go_simp); (try with_reducible rfl); done)), _, (by (simp only [Act.put, List.setIfInBounds_toArray, List.set_cons_zero, List.set_cons_succ]; rfl)), ?_⟩
        refine lb_val (by kernel_rfl) ⟨_, (by (intro w' hC; (obtain ⟨y0, y1, y2, y3, y4, y5, y6, y7, y8⟩ := hy9.below hgb hC); clear hC; (try go_simp); (try with_reducible rfl); done)), _, (by (simp only [Act.put, List.setIfInBounds_toArray, List.set_cons_zero, List.set_cons_succ]; rfl)), ?_⟩
        refine lb_move _ (by kernel_rfl) rfl ⟨_, (by ((try simp [go_sem]); (try rfl); done)), _, (by (simp only [Act.put, List.setIfInBounds_toArray, List.set_cons_zero, List.set_cons_succ]; rfl)), ?_⟩
        refine lb_move _ (by kernel_rfl) rfl ⟨_, (by ((try simp [go_sem]); (try rfl); done)), _, (by (simp only [Act.put, List.setIfInBounds_toArray, List.set_cons_zero, List.set_cons_succ]; rfl)), ?_⟩
        refine lb_val (by kernel_rfl) ⟨_, (by (intro w' hC; clear hC; (try go_simp); (try with_reducible rfl); done)), _, (by (simp only [Act.put, List.setIfInBounds_toArray, List.set_cons_zero, List.set_cons_succ]; rfl)), ?_⟩
        refine lb_val (by kernel_rfl) ⟨_, (by (intro w' hC; (obtain ⟨x0, x1, x2, x3, x4, x5, x6, x7, x8⟩ := hx9.below hgb hC); clear hC; (try go_simp); (try with_reducible rfl); done)), _, (by (simp only [Act.put, List.setIfInBounds_toArray, List.set_cons_zero, List.set_cons_succ]; rfl)), ?_⟩
        refine lb_call (by kernel_rfl) (fun w' hC => HCM.out w' hC) (by (intro w'; go_simp; done)) ⟨_, (by (simp only [Act.put, List.setIfInBounds_toArray, List.set_cons_zero, List.set_cons_succ]; rfl)), ?_⟩
        refine lb_val (by kernel_rfl) ⟨_, (by (intro w' hC; clear hC; (try go_simp); (try with_reducible rfl); done)), _, (by (simp only [Act.put, List.setIfInBounds_toArray, List.set_cons_zero, List.set_cons_succ]; rfl)), ?_⟩
        refine .nil ?_
        intro w2 hb2
        have hbw2 := hbw.trans (hb2.mono hbw.size)
        clear hx9 hy9 HCM hb2 hbw
        go_wp2_with fail
        go_roundw
        case rel => exact ⟨i, h, hmi, hhi, by omega, rfl, rfl, HLo, HHi2, hbw2⟩
        case measure => have := HHD.out; simp [intOf]; omega
    · obtain rfl : i = j := by omega
      have hr2 := HR.out.below hbw
      have hf2 : Fr (fun b => b = g) w wr := (Fr.refl _ w).then_below hbw
      have hRi : i - m ≤ R.length := by have := HB.out; omega
      obtain ⟨R1, hR1⟩ : ∃ R1, R1 = R.take (i - m) := ⟨_, rfl⟩
      obtain ⟨R2, hR2⟩ : ∃ R2, R2 = R.drop (i - m) := ⟨_, rfl⟩
      have HR12 : Hid (R = R1 ++ R2) := Lib.hid (by rw [hR1, hR2, List.take_append_drop])
      have HL1 : Hid (m + R1.length = i) := Lib.hid (by rw [hR1, List.length_take]; omega)
      have HFIN : Hid (TT = P ++ R1 ++ x :: (R2 ++ Q)) := Lib.hid (by
        rw [HT.out, HR12.out, sym_one ordC (by rw [← HR12.out]; exact HS.out) (fun y hy => by
          rw [hR1] at hy
          obtain ⟨k, hk, e⟩ := List.mem_take_iff_getElem.1 hy
          exact HLo.out k y (by omega) (List.getElem?_eq_some_iff.2 ⟨by omega, e⟩)) (fun y hy => by
          rw [hR2] at hy
          obtain ⟨k, hk, e⟩ := List.getElem_of_mem hy
          rw [List.getElem_drop] at e
          exact HHi.out (i - m + k) y (by omega) (List.getElem?_eq_some_iff.2 ⟨by rw [List.length_drop] at hk; omega, e⟩))]
        simp)
      have HST : Hid (X = P ++ [] ++ x :: (R1 ++ (R2 ++ Q))) := Lib.hid (by rw [HX.out, HR12.out]; simp)
      have hwi : IntKind.i64.wrap ((i : Int) - 1) = ((i - 1 : Nat) : Int) := by have := HMA.out; rw [IntKind.wrap_i64]; omega
      obtain ⟨z, hz⟩ : ∃ z, z = i - 1 := ⟨_, rfl⟩
      rw [← hz] at hwi
      have hza : a ≤ z := by have := HMA.out; omega
      have hzm : z + 1 = i := by have := HMA.out; omega
      have HZ := Lib.hid hzm
      have hzN : z < N := by omega
      have HX2 := Lib.hid hr2
      clear hR1 hR2 hx9 HLo HHi hr2 hRi hz hzm hbw
      go_wp2_with fail
      go_loopw [13] (fun kv wr => ∃ (k : Nat) (U V : List CV), a ≤ k ∧ k ≤ z ∧ kv = .int .i64 (k : Int) ∧ Hid (U ++ V = R1) ∧ Hid (a + U.length = k) ∧ RowC wr base (some ⟨g, off, none⟩) c (P ++ U ++ x :: (V ++ (R2 ++ Q))) ∧ Fr (fun b => b = g) w wr) (fun kv _ => z - (intOf kv).toNat)
      case atStart => exact ⟨a, [], R1, Nat.le_refl _, hza, rfl, Lib.hid rfl, Lib.hid rfl, by rw [← HST.out]; exact HX2.out, hf2⟩
      case round =>
        obtain ⟨k, U, V, hak, hkz, rfl, HUV, HU, hr2, hf2⟩ := hrel
        rename World => w2
        by_cases hkl : k < z
        · obtain ⟨y, V2, hV2⟩ : ∃ y V2, V = y :: V2 := by
            have h1 := HUV.out
            have h2 := HU.out
            have h3 := HL1.out
            have h4 := HZ.out
            have h5 := HMA.out
            rcases V with _ | ⟨y, V2⟩
            · rw [List.append_nil] at h1
              rw [h1] at h2; omega
            · exact ⟨y, V2, rfl⟩
          obtain ⟨LL, hLL⟩ : ∃ LL, LL = P ++ U ++ x :: y :: (V2 ++ (R2 ++ Q)) := ⟨_, rfl⟩
          have hLV : P ++ U ++ x :: (V ++ (R2 ++ Q)) = LL := by rw [hLL, hV2]; rfl
          rw [hLV] at hr2
          have hPU : (P ++ U).length = k := by rw [List.length_append, HP.out]; exact HU.out
          have hLn : LL.length = N := by
            rw [← hLV, HN.out, HST.out]
            simp only [List.length_append, List.length_cons, ← HUV.out, List.length_nil]; omega
          have hg1 : LL[k]? = some x := by rw [hLL]; exact mid_get hPU
          have hg2' : LL[k + 1]? = some y := by rw [hLL]; exact mid_get1 hPU
          obtain ⟨k1, hk1⟩ : ∃ k1, k1 = k := ⟨_, rfl⟩
          subst hk1
          obtain ⟨k2, hk2⟩ : ∃ k2, k2 = k1 + 1 := ⟨_, rfl⟩
          have hg2 : LL[k2]? = some y := by rw [hk2]; exact hg2'
          have hwk : IntKind.i64.wrap ((k1 : Int) + 1) = (k2 : Int) := by rw [IntKind.wrap_i64]; omega
          have hi1 : k1 < LL.length := by omega
          have hi2 : k2 < LL.length := by omega
          have hz1 : (k1 : Int) < (N : Int) := by omega
          have hz2 : (k2 : Int) < (N : Int) := by omega
          have hy1 : (0 : Int) ≤ (k1 : Int) := by omega
          have hy2 : (0 : Int) ≤ (k2 : Int) := by omega
          have hgb2 : g < w2.heap.size := (hr2.addr (by omega)).elim fun g' h => by obtain ⟨o', e, _, h3⟩ := h; injection e with e; injection e with e1 e2; rw [e1]; exact h3
          have HNX : Hid ((LL.set k1 y).set k2 x = P ++ (U ++ [y]) ++ x :: (V2 ++ (R2 ++ Q))) := Lib.hid (by rw [hLL, hk2, swap_mid2 hPU]; simp)
          have HK2 := Lib.hid hk2
          have HUV2 : Hid ((U ++ [y]) ++ V2 = R1) := Lib.hid (by rw [← HUV.out, hV2]; simp)
          have HLN := Lib.hid hLn
          clear hLL hLV hLn hg2' hV2 hPU hk2
          go_wp2_with fail
          have hC0 : Fr (fun b => b = g) w2 w2.drew := (Fr.refl (fun b => b = g) w2).drew
          have hx9' := (hr2.get hg1).below hgb2 (Below.refl w2.heap.size w2).drew
          have hy9' := (hr2.get hg2).below hgb2 (Below.refl w2.heap.size w2).drew
          have hrd := hr2.drew
          refine wp_region_plan (.tell 0 (.tell 1 (.tell 2 (.tell 3 (.tell 4 (.tell 5 (.tell 6 (.tell 7 (.tell 8 (.tell 10 (.tell 11 (.tell 12 (.two 9 (.one 13 (.tell 14 (.one 15 (.tell 16 (.one 17 .done))))) 13 (.one 9 (.tell 14 (.one 15 (.tell 16 (.one 17 .done)))))))))))))))))) (fun W => Fr (fun b => b = g) w2 W) _ (by kernel_rfl) (by kernel_rfl) ?_ (fun _ _ h => h)
          refine pl_val (by (simp only [List.getElem?_toArray, List.getElem?_cons_succ, List.getElem?_cons_zero]; rfl)) (by kernel_rfl) ⟨_, (by (intro w' hC; clear hC; (try go_simp); (try with_reducible rfl); done)), _, (by (simp only [Act.put, List.setIfInBounds_toArray, List.set_cons_zero, List.set_cons_succ]; rfl)), ?_⟩
          refine pl_val (by (simp only [List.getElem?_toArray, List.getElem?_cons_succ, List.getElem?_cons_zero]; rfl)) (by kernel_rfl) ⟨_, (by (intro w' hC; clear hC; (try go_simp); (try with_reducible rfl); done)), _, (by (simp only [Act.put, List.setIfInBounds_toArray, List.set_cons_zero, List.set_cons_succ]; rfl)), ?_⟩
          refine pl_val (by (simp only [List.getElem?_toArray, List.getElem?_cons_succ, List.getElem?_cons_zero]; rfl)) (by kernel_rfl) ⟨_, (by (intro w' hC; clear hC; (try go_simp); (try with_reducible rfl); done)), _, (by (simp only [Act.put, List.setIfInBounds_toArray, List.set_cons_zero, List.set_cons_succ]; rfl)), ?_⟩
          refine pl_val (by (simp only [List.getElem?_toArray, List.getElem?_cons_succ, List.getElem?_cons_zero]; rfl)) (by kernel_rfl) ⟨_, (by (intro w' hC; clear hC; (try go_simp); (try with_reducible rfl); done)), _, (by (simp only [Act.put, List.setIfInBounds_toArray, List.set_cons_zero, List.set_cons_succ]; rfl)), ?_⟩
          refine pl_val (by (simp only [List.getElem?_toArray, List.getElem?_cons_succ, List.getElem?_cons_zero]; rfl)) (by kernel_rfl) ⟨_, (by (intro w' hC; clear hC; (try go_simp); (try with_reducible rfl); done)), _, (by (simp only [Act.put, List.setIfInBounds_toArray, List.set_cons_zero, List.set_cons_succ]; rfl)), ?_⟩
          refine pl_val (by (simp only [List.getElem?_toArray, List.getElem?_cons_succ, List.getElem?_cons_zero]; rfl)) (by kernel_rfl) ⟨_, (by (intro w' hC; clear hC; (try go_simp); (try with_reducible rfl); done)), _, (by (simp only [Act.put, List.setIfInBounds_toArray, List.set_cons_zero, List.set_cons_succ]; rfl)), ?_⟩
          refine pl_val (by (simp only [List.getElem?_toArray, List.getElem?_cons_succ, List.getElem?_cons_zero]; rfl)) (by kernel_rfl) ⟨_, (by (intro w' hC; clear hC; (try go_simp); (try with_reducible rfl); done)), _, (by (simp only [Act.put, List.setIfInBounds_toArray, List.set_cons_zero, List.set_cons_succ]; rfl)), ?_⟩
          refine pl_val (by (simp only [List.getElem?_toArray, List.getElem?_cons_succ, List.getElem?_cons_zero]; rfl)) (by kernel_rfl) ⟨_, (by (intro w' hC; clear hC; (try go_simp); (try with_reducible rfl); done)), _, (by (simp only [Act.put, List.setIfInBounds_toArray, List.set_cons_zero, List.set_cons_succ]; rfl)), ?_⟩
          refine pl_val (by (simp only [List.getElem?_toArray, List.getElem?_cons_succ, List.getElem?_cons_zero]; rfl)) (by kernel_rfl) ⟨_, (by (intro w' hC; clear hC; (try go_simp); (try with_reducible rfl); done)), _, (by (simp only [Act.put, List.setIfInBounds_toArray, List.set_cons_zero, List.set_cons_succ]; rfl)), ?_⟩
          refine pl_val (by (simp only [List.getElem?_toArray, List.getElem?_cons_succ, List.getElem?_cons_zero]; rfl)) (by kernel_rfl) ⟨_, (by (intro w' hC; clear hC; (try go_simp); (try with_reducible rfl); done)), _, (by (simp only [Act.put, List.setIfInBounds_toArray, List.set_cons_zero, List.set_cons_succ]; rfl)), ?_⟩
          refine pl_val (by (simp only [List.getElem?_toArray, List.getElem?_cons_succ, List.getElem?_cons_zero]; rfl)) (by kernel_rfl) ⟨_, (by (intro w' hC; clear hC; (try go_simp); (try with_reducible rfl); done)), _, (by (simp only [Act.put, List.setIfInBounds_toArray, List.set_cons_zero, List.set_cons_succ]; rfl)), ?_⟩
          refine pl_val (by (simp only [List.getElem?_toArray, List.getElem?_cons_succ, List.getElem?_cons_zero]; rfl)) (by kernel_rfl) ⟨_, (by (intro w' hC; clear hC; (try go_simp); (try with_reducible rfl); done)), _, (by (simp only [Act.put, List.setIfInBounds_toArray, List.set_cons_zero, List.set_cons_succ]; rfl)), ?_⟩
          clear hr2
          generalize w2.drew = wd at *
          obtain ⟨x0, x1, x2, x3, x4, x5, x6, x7, x8⟩ := hx9'
          obtain ⟨y0, y1, y2, y3, y4, y5, y6, y7, y8⟩ := hy9'
          have fz := fun o => hrd.frozen o
          refine pl_two (by (simp only [List.getElem?_toArray, List.getElem?_cons_succ, List.getElem?_cons_zero]; rfl)) (by (simp only [List.getElem?_toArray, List.getElem?_cons_succ, List.getElem?_cons_zero]; rfl)) hC0 ?_ ?_
          · refine al_val (by kernel_rfl) ⟨_, _, (by (go_simp; first | done | exact ⟨rfl, rfl⟩)), _, (by (simp only [Act.put, List.setIfInBounds_toArray, List.set_cons_zero, List.set_cons_succ]; rfl)), ?_⟩
            refine pl_one (by (simp only [List.getElem?_toArray, List.getElem?_cons_succ, List.getElem?_cons_zero]; rfl)) hC0 ?_
            refine al_val (by kernel_rfl) ⟨_, _, (by (go_simp; first | done | exact ⟨rfl, rfl⟩)), _, (by (simp only [Act.put, List.setIfInBounds_toArray, List.set_cons_zero, List.set_cons_succ]; rfl)), ?_⟩
            refine pl_val (by (simp only [List.getElem?_toArray, List.getElem?_cons_succ, List.getElem?_cons_zero]; rfl)) (by kernel_rfl) ⟨_, (by (intro w' hC; clear hC; (try go_simp); (try with_reducible rfl); done)), _, (by (simp only [Act.put, List.setIfInBounds_toArray, List.set_cons_zero, List.set_cons_succ]; rfl)), ?_⟩
            refine pl_one (by (simp only [List.getElem?_toArray, List.getElem?_cons_succ, List.getElem?_cons_zero]; rfl)) hC0 ?_
            refine al_skip (by kernel_rfl) ⟨_, (by (go_simp; first | done | rfl)), _, (by (simp only [Act.put, List.setIfInBounds_toArray, List.set_cons_zero, List.set_cons_succ]; rfl)), ?_⟩
            have hr3 := RowC.setCh hrd hi1 y
            change RowC (((((((((wd.setCell ⟨g, off + k1 * 9, none⟩ (.string y.p)).setCell ⟨g, off + k1 * 9 + 1, none⟩ (.int .i64 y.b)).setCell ⟨g, off + k1 * 9 + 2, none⟩ (.bool y.m)).setCell ⟨g, off + k1 * 9 + 3, none⟩ (.bool y.t)).setCell ⟨g, off + k1 * 9 + 4, none⟩ (.int .i64 y.k)).setCell ⟨g, off + k1 * 9 + 5, none⟩ (.int .i64 y.o)).setCell ⟨g, off + k1 * 9 + 6, none⟩ (.int .i64 y.s)).setCell ⟨g, off + k1 * 9 + 7, none⟩ (.int .i64 y.l)).setCell ⟨g, off + k1 * 9 + 8, none⟩ (.int .i64 y.v)) base (some ⟨g, off, none⟩) c (LL.set k1 y) at hr3
            have hf3 : Fr (fun b => b = g) w2 (((((((((wd.setCell ⟨g, off + k1 * 9, none⟩ (.string y.p)).setCell ⟨g, off + k1 * 9 + 1, none⟩ (.int .i64 y.b)).setCell ⟨g, off + k1 * 9 + 2, none⟩ (.bool y.m)).setCell ⟨g, off + k1 * 9 + 3, none⟩ (.bool y.t)).setCell ⟨g, off + k1 * 9 + 4, none⟩ (.int .i64 y.k)).setCell ⟨g, off + k1 * 9 + 5, none⟩ (.int .i64 y.o)).setCell ⟨g, off + k1 * 9 + 6, none⟩ (.int .i64 y.s)).setCell ⟨g, off + k1 * 9 + 7, none⟩ (.int .i64 y.l)).setCell ⟨g, off + k1 * 9 + 8, none⟩ (.int .i64 y.v)) := hC0.trans (setCh_fr wd g (off + k1 * 9) y) (fun _ _ e => e)
            clear x0 x1 x2 x3 x4 x5 x6 x7 x8 y0 y1 y2 y3 y4 y5 y6 y7 y8 fz
            generalize (((((((((wd.setCell ⟨g, off + k1 * 9, none⟩ (.string y.p)).setCell ⟨g, off + k1 * 9 + 1, none⟩ (.int .i64 y.b)).setCell ⟨g, off + k1 * 9 + 2, none⟩ (.bool y.m)).setCell ⟨g, off + k1 * 9 + 3, none⟩ (.bool y.t)).setCell ⟨g, off + k1 * 9 + 4, none⟩ (.int .i64 y.k)).setCell ⟨g, off + k1 * 9 + 5, none⟩ (.int .i64 y.o)).setCell ⟨g, off + k1 * 9 + 6, none⟩ (.int .i64 y.s)).setCell ⟨g, off + k1 * 9 + 7, none⟩ (.int .i64 y.l)).setCell ⟨g, off + k1 * 9 + 8, none⟩ (.int .i64 y.v)) = w3 at *
            have hk0 : k2 < (LL.set k1 y).length := by rw [List.length_set]; exact hi2
            have hy3 := hr3.at9 hk0
            obtain ⟨y0, y1, y2, y3, y4, y5, y6, y7, y8⟩ := hy3
            have fz := fun o => hr3.frozen o
            refine pl_val (by (simp only [List.getElem?_toArray, List.getElem?_cons_succ, List.getElem?_cons_zero]; rfl)) (by kernel_rfl) ⟨_, (by (intro w' hC; clear hC; (try go_simp); (try with_reducible rfl); done)), _, (by (simp only [Act.put, List.setIfInBounds_toArray, List.set_cons_zero, List.set_cons_succ]; rfl)), ?_⟩
            refine pl_one (by (simp only [List.getElem?_toArray, List.getElem?_cons_succ, List.getElem?_cons_zero]; rfl)) hf3 ?_
            refine al_skip (by kernel_rfl) ⟨_, (by (go_simp; first | done | rfl)), _, (by (simp only [Act.put, List.setIfInBounds_toArray, List.set_cons_zero, List.set_cons_succ]; rfl)), ?_⟩
            have hr5 := RowC.setCh hr3 hk0 x
            change RowC (((((((((w3.setCell ⟨g, off + k2 * 9, none⟩ (.string x.p)).setCell ⟨g, off + k2 * 9 + 1, none⟩ (.int .i64 x.b)).setCell ⟨g, off + k2 * 9 + 2, none⟩ (.bool x.m)).setCell ⟨g, off + k2 * 9 + 3, none⟩ (.bool x.t)).setCell ⟨g, off + k2 * 9 + 4, none⟩ (.int .i64 x.k)).setCell ⟨g, off + k2 * 9 + 5, none⟩ (.int .i64 x.o)).setCell ⟨g, off + k2 * 9 + 6, none⟩ (.int .i64 x.s)).setCell ⟨g, off + k2 * 9 + 7, none⟩ (.int .i64 x.l)).setCell ⟨g, off + k2 * 9 + 8, none⟩ (.int .i64 x.v)) base (some ⟨g, off, none⟩) c ((LL.set k1 y).set k2 x) at hr5
            have hf5 : Fr (fun b => b = g) w2 (((((((((w3.setCell ⟨g, off + k2 * 9, none⟩ (.string x.p)).setCell ⟨g, off + k2 * 9 + 1, none⟩ (.int .i64 x.b)).setCell ⟨g, off + k2 * 9 + 2, none⟩ (.bool x.m)).setCell ⟨g, off + k2 * 9 + 3, none⟩ (.bool x.t)).setCell ⟨g, off + k2 * 9 + 4, none⟩ (.int .i64 x.k)).setCell ⟨g, off + k2 * 9 + 5, none⟩ (.int .i64 x.o)).setCell ⟨g, off + k2 * 9 + 6, none⟩ (.int .i64 x.s)).setCell ⟨g, off + k2 * 9 + 7, none⟩ (.int .i64 x.l)).setCell ⟨g, off + k2 * 9 + 8, none⟩ (.int .i64 x.v)) := hf3.trans (setCh_fr w3 g (off + k2 * 9) x) (fun _ _ e => e)
            refine pl_end hf5 ?_
            simp only [Plan.count, Nat.reduceAdd, List.drop_succ_cons, List.drop_zero]
            generalize (((((((((w3.setCell ⟨g, off + k2 * 9, none⟩ (.string x.p)).setCell ⟨g, off + k2 * 9 + 1, none⟩ (.int .i64 x.b)).setCell ⟨g, off + k2 * 9 + 2, none⟩ (.bool x.m)).setCell ⟨g, off + k2 * 9 + 3, none⟩ (.bool x.t)).setCell ⟨g, off + k2 * 9 + 4, none⟩ (.int .i64 x.k)).setCell ⟨g, off + k2 * 9 + 5, none⟩ (.int .i64 x.o)).setCell ⟨g, off + k2 * 9 + 6, none⟩ (.int .i64 x.s)).setCell ⟨g, off + k2 * 9 + 7, none⟩ (.int .i64 x.l)).setCell ⟨g, off + k2 * 9 + 8, none⟩ (.int .i64 x.v)) = w5 at *
            clear y0 y1 y2 y3 y4 y5 y6 y7 y8 fz hr3 hf3 hrd hC0 hk0
            have HR5 : Hid (RowC w5 base (some ⟨g, off, none⟩) c (P ++ (U ++ [y]) ++ x :: (V2 ++ (R2 ++ Q)))) := Lib.hid (by rw [← HNX.out]; exact hr5)
            have HF5 := Lib.hid (hf2.trans hf5 (fun _ _ e => e))
            have hk2e := HK2.out
            clear hr5 hf5
            go_wp2_with fail
            go_roundw
            case rel => exact ⟨k2, U ++ [y], V2, by omega, by omega, by go_num, HUV2, Lib.hid (by have := HU.out; rw [List.length_append, List.length_singleton]; omega), HR5.out, HF5.out⟩
            case measure => simp [intOf]; omega
          · refine al_val (by kernel_rfl) ⟨_, _, (by (go_simp; first | done | exact ⟨rfl, rfl⟩)), _, (by (simp only [Act.put, List.setIfInBounds_toArray, List.set_cons_zero, List.set_cons_succ]; rfl)), ?_⟩
            refine pl_one (by (simp only [List.getElem?_toArray, List.getElem?_cons_succ, List.getElem?_cons_zero]; rfl)) hC0 ?_
            refine al_val (by kernel_rfl) ⟨_, _, (by (go_simp; first | done | exact ⟨rfl, rfl⟩)), _, (by (simp only [Act.put, List.setIfInBounds_toArray, List.set_cons_zero, List.set_cons_succ]; rfl)), ?_⟩
            refine pl_val (by (simp only [List.getElem?_toArray, List.getElem?_cons_succ, List.getElem?_cons_zero]; rfl)) (by kernel_rfl) ⟨_, (by (intro w' hC; clear hC; (try go_simp); (try with_reducible rfl); done)), _, (by (simp only [Act.put, List.setIfInBounds_toArray, List.set_cons_zero, List.set_cons_succ]; rfl)), ?_⟩
            refine pl_one (by (simp only [List.getElem?_toArray, List.getElem?_cons_succ, List.getElem?_cons_zero]; rfl)) hC0 ?_
            refine al_skip (by kernel_rfl) ⟨_, (by (go_simp; first | done | rfl)), _, (by (simp only [Act.put, List.setIfInBounds_toArray, List.set_cons_zero, List.set_cons_succ]; rfl)), ?_⟩
            have hr3 := RowC.setCh hrd hi1 y
            change RowC (((((((((wd.setCell ⟨g, off + k1 * 9, none⟩ (.string y.p)).setCell ⟨g, off + k1 * 9 + 1, none⟩ (.int .i64 y.b)).setCell ⟨g, off + k1 * 9 + 2, none⟩ (.bool y.m)).setCell ⟨g, off + k1 * 9 + 3, none⟩ (.bool y.t)).setCell ⟨g, off + k1 * 9 + 4, none⟩ (.int .i64 y.k)).setCell ⟨g, off + k1 * 9 + 5, none⟩ (.int .i64 y.o)).setCell ⟨g, off + k1 * 9 + 6, none⟩ (.int .i64 y.s)).setCell ⟨g, off + k1 * 9 + 7, none⟩ (.int .i64 y.l)).setCell ⟨g, off + k1 * 9 + 8, none⟩ (.int .i64 y.v)) base (some ⟨g, off, none⟩) c (LL.set k1 y) at hr3
            have hf3 : Fr (fun b => b = g) w2 (((((((((wd.setCell ⟨g, off + k1 * 9, none⟩ (.string y.p)).setCell ⟨g, off + k1 * 9 + 1, none⟩ (.int .i64 y.b)).setCell ⟨g, off + k1 * 9 + 2, none⟩ (.bool y.m)).setCell ⟨g, off + k1 * 9 + 3, none⟩ (.bool y.t)).setCell ⟨g, off + k1 * 9 + 4, none⟩ (.int .i64 y.k)).setCell ⟨g, off + k1 * 9 + 5, none⟩ (.int .i64 y.o)).setCell ⟨g, off + k1 * 9 + 6, none⟩ (.int .i64 y.s)).setCell ⟨g, off + k1 * 9 + 7, none⟩ (.int .i64 y.l)).setCell ⟨g, off + k1 * 9 + 8, none⟩ (.int .i64 y.v)) := hC0.trans (setCh_fr wd g (off + k1 * 9) y) (fun _ _ e => e)
            clear x0 x1 x2 x3 x4 x5 x6 x7 x8 y0 y1 y2 y3 y4 y5 y6 y7 y8 fz
            generalize (((((((((wd.setCell ⟨g, off + k1 * 9, none⟩ (.string y.p)).setCell ⟨g, off + k1 * 9 + 1, none⟩ (.int .i64 y.b)).setCell ⟨g, off + k1 * 9 + 2, none⟩ (.bool y.m)).setCell ⟨g, off + k1 * 9 + 3, none⟩ (.bool y.t)).setCell ⟨g, off + k1 * 9 + 4, none⟩ (.int .i64 y.k)).setCell ⟨g, off + k1 * 9 + 5, none⟩ (.int .i64 y.o)).setCell ⟨g, off + k1 * 9 + 6, none⟩ (.int .i64 y.s)).setCell ⟨g, off + k1 * 9 + 7, none⟩ (.int .i64 y.l)).setCell ⟨g, off + k1 * 9 + 8, none⟩ (.int .i64 y.v)) = w3 at *
            have hk0 : k2 < (LL.set k1 y).length := by rw [List.length_set]; exact hi2
            have hy3 := hr3.at9 hk0
            obtain ⟨y0, y1, y2, y3, y4, y5, y6, y7, y8⟩ := hy3
            have fz := fun o => hr3.frozen o
            refine pl_val (by (simp only [List.getElem?_toArray, List.getElem?_cons_succ, List.getElem?_cons_zero]; rfl)) (by kernel_rfl) ⟨_, (by (intro w' hC; clear hC; (try go_simp); (try with_reducible rfl); done)), _, (by (simp only [Act.put, List.setIfInBounds_toArray, List.set_cons_zero, List.set_cons_succ]; rfl)), ?_⟩
            refine pl_one (by (simp only [List.getElem?_toArray, List.getElem?_cons_succ, List.getElem?_cons_zero]; rfl)) hf3 ?_
            refine al_skip (by kernel_rfl) ⟨_, (by (go_simp; first | done | rfl)), _, (by (simp only [Act.put, List.setIfInBounds_toArray, List.set_cons_zero, List.set_cons_succ]; rfl)), ?_⟩
            have hr5 := RowC.setCh hr3 hk0 x
            change RowC (((((((((w3.setCell ⟨g, off + k2 * 9, none⟩ (.string x.p)).setCell ⟨g, off + k2 * 9 + 1, none⟩ (.int .i64 x.b)).setCell ⟨g, off + k2 * 9 + 2, none⟩ (.bool x.m)).setCell ⟨g, off + k2 * 9 + 3, none⟩ (.bool x.t)).setCell ⟨g, off + k2 * 9 + 4, none⟩ (.int .i64 x.k)).setCell ⟨g, off + k2 * 9 + 5, none⟩ (.int .i64 x.o)).setCell ⟨g, off + k2 * 9 + 6, none⟩ (.int .i64 x.s)).setCell ⟨g, off + k2 * 9 + 7, none⟩ (.int .i64 x.l)).setCell ⟨g, off + k2 * 9 + 8, none⟩ (.int .i64 x.v)) base (some ⟨g, off, none⟩) c ((LL.set k1 y).set k2 x) at hr5
            have hf5 : Fr (fun b => b = g) w2 (((((((((w3.setCell ⟨g, off + k2 * 9, none⟩ (.string x.p)).setCell ⟨g, off + k2 * 9 + 1, none⟩ (.int .i64 x.b)).setCell ⟨g, off + k2 * 9 + 2, none⟩ (.bool x.m)).setCell ⟨g, off + k2 * 9 + 3, none⟩ (.bool x.t)).setCell ⟨g, off + k2 * 9 + 4, none⟩ (.int .i64 x.k)).setCell ⟨g, off + k2 * 9 + 5, none⟩ (.int .i64 x.o)).setCell ⟨g, off + k2 * 9 + 6, none⟩ (.int .i64 x.s)).setCell ⟨g, off + k2 * 9 + 7, none⟩ (.int .i64 x.l)).setCell ⟨g, off + k2 * 9 + 8, none⟩ (.int .i64 x.v)) := hf3.trans (setCh_fr w3 g (off + k2 * 9) x) (fun _ _ e => e)
            refine pl_end hf5 ?_
            simp only [Plan.count, Nat.reduceAdd, List.drop_succ_cons, List.drop_zero]
            generalize (((((((((w3.setCell ⟨g, off + k2 * 9, none⟩ (.string x.p)).setCell ⟨g, off + k2 * 9 + 1, none⟩ (.int .i64 x.b)).setCell ⟨g, off + k2 * 9 + 2, none⟩ (.bool x.m)).setCell ⟨g, off + k2 * 9 + 3, none⟩ (.bool x.t)).setCell ⟨g, off + k2 * 9 + 4, none⟩ (.int .i64 x.k)).setCell ⟨g, off + k2 * 9 + 5, none⟩ (.int .i64 x.o)).setCell ⟨g, off + k2 * 9 + 6, none⟩ (.int .i64 x.s)).setCell ⟨g, off + k2 * 9 + 7, none⟩ (.int .i64 x.l)).setCell ⟨g, off + k2 * 9 + 8, none⟩ (.int .i64 x.v)) = w5 at *
            clear y0 y1 y2 y3 y4 y5 y6 y7 y8 fz hr3 hf3 hrd hC0 hk0
            have HR5 : Hid (RowC w5 base (some ⟨g, off, none⟩) c (P ++ (U ++ [y]) ++ x :: (V2 ++ (R2 ++ Q)))) := Lib.hid (by rw [← HNX.out]; exact hr5)
            have HF5 := Lib.hid (hf2.trans hf5 (fun _ _ e => e))
            have hk2e := HK2.out
            clear hr5 hf5
            go_wp2_with fail
            go_roundw
            case rel => exact ⟨k2, U ++ [y], V2, by omega, by omega, by go_num, HUV2, Lib.hid (by have := HU.out; rw [List.length_append, List.length_singleton]; omega), HR5.out, HF5.out⟩
            case measure => simp [intOf]; omega
        · obtain rfl : k = z := by omega
          have HRE : Hid (RowC w2 base (some ⟨g, off, none⟩) c TT) := Lib.hid (by
            have h1 := HUV.out
            have h2 := HU.out
            have h3 := HL1.out
            have h4 := HZ.out
            have h5 := HMA.out
            have hV : V = [] := by
              apply List.eq_nil_of_length_eq_zero
              have := congrArg List.length h1
              rw [List.length_append] at this
              omega
            have hU : U = R1 := by rw [hV, List.append_nil] at h1; exact h1
            rw [HFIN.out, ← hU]
            rw [hV] at hr2
            exact hr2)
          have HFE : Hid (Fr (fun b => ablk (some (⟨g, off, none⟩ : Addr)) = some b) w w2) := Lib.hid (hf2.mono fun _ _ e => by rw [e]; rfl)
          clear hr2 hf2 HUV
          go_wp2_with fail
          (try simp only [Exit.inBlock, Exit.then])
          refine bodyPost_ret (results_none rfl _ _ _) rfl ?_
          exact ⟨rfl, HRE.out, HFE.out⟩

end Go.Proofs.YtkeledbgmpienaaGreat

/- slices.symMergeCmpFunc at changes where the second row has one. -/
namespace Go.Proofs.YtkeledbgmpienaaGreat
open Go.RowKit Go.WideShapes Go.ChangeShapes Go.ChangeAt


set_option maxRecDepth 100000 in
set_option maxHeartbeats 2000000 in
theorem symLast_any (A : Option Addr) (c a m b N base : Nat) (P L : List CV) (x : CV) (Q : List CV) (w : World) (h : RowC w base A c (P ++ L ++ [x] ++ Q)) (hN : N = (P ++ L ++ [x] ++ Q).length) (hP : P.length = a) (hm : a + L.length = m) (hb : m + 1 = b) (h2L : 2 ≤ L.length) (hL : SortedC ltC L) (hp : ∀ z ∈ L ++ [x], z.p.size ≤ 140737488355328) (hl : N ≤ 1000000) :
    Calls Tryz.prog 70 #[.slice A N c, .int .i64 (a : Int), .int .i64 (m : Int), .int .i64 (b : Int), .func (.func 33) #[] #[]] w fun e w' => e = .returned (.tuple #[]) ∧ RowC w' base A c (P ++ sortC ltC (L ++ [x]) ++ Q) ∧ Fr (fun g => ablk A = some g) w w' := by
  have hmN : m < N := by rw [hN]; simp only [List.length_append, List.length_singleton]; omega
  have hwm1 : IntKind.i64.wrap ((m : Int) - (a : Int)) = (m : Int) - (a : Int) := by rw [IntKind.wrap_i64]; omega
  have hqm : ((m : Int) - (a : Int) == 1) = false := by rw [beq_eq_false_iff_ne]; omega
  have hwm : IntKind.i64.wrap ((b : Int) - (m : Int)) = 1 := by rw [IntKind.wrap_i64]; omega
  have ham : a ≤ m := by omega
  have hgx : (P ++ L ++ [x] ++ Q)[m]? = some x := by
    have := four_get2 (P := P) (L := L) (R := [x]) (Q := Q) (i := 0) hP hm (by simp)
    simpa using this
  have HGL : Hid (∀ k, k < L.length → (P ++ L ++ [x] ++ Q)[a + k]? = L[k]?) := Lib.hid (fun k hk => four_get1 hP hk)
  have HMA := Lib.hid hm
  have HP := Lib.hid hP
  have HS := Lib.hid hL
  have HPS := Lib.hid hp
  have hxp := hp x (by simp)
  have HN := Lib.hid hN
  obtain ⟨X, hX⟩ : ∃ X, X = P ++ L ++ [x] ++ Q := ⟨_, rfl⟩
  have HX := Lib.hid hX
  rw [← hX] at h hgx HGL HN
  obtain ⟨TT, hT⟩ : ∃ TT, TT = P ++ sortC ltC (L ++ [x]) ++ Q := ⟨_, rfl⟩
  have HT := Lib.hid hT
  rw [← hT]
  obtain ⟨g, off, rfl, _, hgb⟩ := h.addr (by rw [← HN.out]; omega)
  have hx9 := h.get hgx
  have HR := Lib.hid h
  clear h hN hP hm hb hL hp hX hT hgx h2L
  go_enter Tryz.func70, Tryz.ntmps70
  go_wp2_with fail
  go_loopw [14, 15, 16] (fun iv jv _ wr => ∃ (i j : Nat), a ≤ i ∧ i ≤ j ∧ j ≤ m ∧ iv = .int .i64 (i : Int) ∧ jv = .int .i64 (j : Int) ∧ Hid (∀ k z, a + k < i → L[k]? = some z → ltC x z = false) ∧ Hid (∀ k z, j ≤ a + k → L[k]? = some z → ltC x z = true) ∧ Below w.heap.size w wr) (fun iv jv _ _ => (intOf jv).toNat - (intOf iv).toNat)
  case atStart => exact ⟨a, m, Nat.le_refl _, ham, Nat.le_refl _, rfl, rfl, Lib.hid (fun k x hk => absurd hk (by omega)), Lib.hid (fun k z hk hz => by have := (List.getElem?_eq_some_iff.1 hz).1; have := HMA.out; omega), Below.refl _ _⟩
  case round =>
    obtain ⟨i, j, hmi, hij, hjb, rfl, rfl, HLo, HHi, hbw⟩ := hrel
    by_cases hlt : i < j
    · obtain ⟨h, hhd⟩ : ∃ q : Nat, q = (i + j) / 2 := ⟨_, rfl⟩
      have HHD := Lib.hid hhd
      have hh1 := half_i64 i j h hhd
      have hhi : i ≤ h := by omega
      have hhj : h < j := by omega
      have hhN : h < N := by omega
      obtain ⟨y, hy⟩ : ∃ y, L[h - a]? = some y := ⟨_, List.getElem?_eq_getElem (by have := HMA.out; omega)⟩
      have hyX : X[h]? = some y := by
        have := HGL.out (h - a) (by have := HMA.out; omega)
        rw [show a + (h - a) = h by omega] at this
        rw [this, hy]
      have HXX := Lib.hid hy
      have hyp := HPS.out y (by rw [List.mem_append]; exact .inl (List.mem_of_getElem? hy))
      have hy9 := RowC.get (HR.out.below hbw) hyX
      replace hx9 := hx9.below hgb hbw
      replace hgb := Nat.lt_of_lt_of_le hgb hbw.size
      have HCM := Lib.hid (fun W (_ : Below wr.heap.size wr W) => cmpC_any x y hxp hyp W)
      clear hy hyX hhd
      by_cases hlx : cmpT (tl x.p) (tl y.p) < 0
      · have hld : decide (cmpT (tl x.p) (tl y.p) < 0) = true := decide_eq_true hlx
        have HLX : Hid (ltC x y = true) := Lib.hid hld
        have HHi2 : Hid (∀ k z, h ≤ a + k → L[k]? = some z → ltC x z = true) := Lib.hid (fun k z hk hz => by
          have h1 : ltC z y = false := HS.out.le ordC HXX.out hz (by omega)
          rcases ordC.neg _ z _ HLX.out with g | g
          · exact g
          · rw [h1] at g; cases g)
        go_wp2_with fail
        refine wp_region_b 12 (by kernel_rfl) (by kernel_rfl) ?_
        simp only [List.take_succ_cons, List.take_zero, List.drop_succ_cons, List.drop_zero]
        refine lb_move _ (by kernel_rfl) rfl ⟨_, (by ((try simp [go_sem]); (try rfl); done)), _, (by (simp only [Act.put, List.setIfInBounds_toArray, List.set_cons_zero, List.set_cons_succ]; rfl)), ?_⟩
        refine lb_move _ (by kernel_rfl) rfl ⟨_, (by ((try simp [go_sem]); (try rfl); done)), _, (by (simp only [Act.put, List.setIfInBounds_toArray, List.set_cons_zero, List.set_cons_succ]; rfl)), ?_⟩
        refine lb_move _ (by kernel_rfl) rfl ⟨_, (by ((try simp [go_sem]); (try rfl); done)), _, (by (simp only [Act.put, List.setIfInBounds_toArray, List.set_cons_zero, List.set_cons_succ]; rfl)), ?_⟩
        refine lb_val (by kernel_rfl) ⟨_, (by (intro w' hC; clear hC; (try go_simp); (try with_reducible rfl); done)), _, (by (simp only [Act.put, List.setIfInBounds_toArray, List.set_cons_zero, List.set_cons_succ]; rfl)), ?_⟩
        refine lb_val (by kernel_rfl) ⟨_, (by (intro w' hC; (obtain ⟨x0, x1, x2, x3, x4, x5, x6, x7, x8⟩ := hx9.below hgb hC); clear hC; (try go_simp); (try with_reducible rfl); done)), _, (by (simp only [Act.put, List.setIfInBounds_toArray, List.set_cons_zero, List.set_cons_succ]; rfl)), ?_⟩
        refine lb_move _ (by kernel_rfl) rfl ⟨_, (by ((try simp [go_sem]); (try rfl); done)), _, (by (simp only [Act.put, List.setIfInBounds_toArray, List.set_cons_zero, List.set_cons_succ]; rfl)), ?_⟩
        refine lb_move _ (by kernel_rfl) rfl ⟨_, (by ((try simp [go_sem]); (try rfl); done)), _, (by (simp only [Act.put, List.setIfInBounds_toArray, List.set_cons_zero, List.set_cons_succ]; rfl)), ?_⟩
        refine lb_val (by kernel_rfl) ⟨_, (by (intro w' hC; clear hC; (try go_simp); (try with_reducible rfl); done)), _, (by (simp only [Act.put, List.setIfInBounds_toArray, List.set_cons_zero, List.set_cons_succ]; rfl)), ?_⟩
        refine lb_val (by kernel_rfl) ⟨_, (by (intro w' hC; (obtain ⟨y0, y1, y2, y3, y4, y5, y6, y7, y8⟩ := hy9.below hgb hC); clear hC; (try go_simp); (try with_reducible rfl); done)), _, (by (simp only [Act.put, List.setIfInBounds_toArray, List.set_cons_zero, List.set_cons_succ]; rfl)), ?_⟩
        refine lb_call (by kernel_rfl) (fun w' hC => HCM.out w' hC) (by (intro w'; go_simp; done)) ⟨_, (by (simp only [Act.put, List.setIfInBounds_toArray, List.set_cons_zero, List.set_cons_succ]; rfl)), ?_⟩
        refine lb_val (by kernel_rfl) ⟨_, (by (intro w' hC; clear hC; (try go_simp); (try with_reducible rfl); done)), _, (by (simp only [Act.put, List.setIfInBounds_toArray, List.set_cons_zero, List.set_cons_succ]; rfl)), ?_⟩
        refine lb_val (by kernel_rfl) ⟨_, (by (intro w' hC; clear hC; (try go_simp); (try with_reducible rfl); done)), _, (by (simp only [Act.put, List.setIfInBounds_toArray, List.set_cons_zero, List.set_cons_succ]; rfl)), ?_⟩
        refine .nil ?_
        intro w2 hb2
        have hbw2 := hbw.trans (hb2.mono hbw.size)
        clear hy9 hx9 HCM hb2 hbw
        go_wp2_with fail
        go_roundw
        case rel => exact ⟨i, h, hmi, hhi, by omega, rfl, rfl, HLo, HHi2, hbw2⟩
        case measure => have := HHD.out; simp [intOf]; omega
      · have hld : decide (cmpT (tl x.p) (tl y.p) < 0) = false := decide_eq_false hlx
        have HLX : Hid (ltC x y = false) := Lib.hid hld
        have HLo2 : Hid (∀ k z, a + k < h + 1 → L[k]? = some z → ltC x z = false) := Lib.hid (fun k z hk hz => by
          have h1 : ltC y z = false := HS.out.le ordC hz HXX.out (by omega)
          cases hh : ltC x z
          · rfl
          · rcases ordC.neg _ y _ hh with g | g
            · rw [HLX.out] at g; cases g
            · rw [h1] at g; cases g)
        go_wp2_with fail
        refine wp_region_b 12 (by kernel_rfl) (by kernel_rfl) ?_
        simp only [List.take_succ_cons, List.take_zero, List.drop_succ_cons, List.drop_zero]
        refine lb_move _ (by kernel_rfl) rfl ⟨_, (by ((try simp [go_sem]); (try rfl); done)), _, (by (simp only [Act.put, List.setIfInBounds_toArray, List.set_cons_zero, List.set_cons_succ]; rfl)), ?_⟩
        refine lb_move _ (by kernel_rfl) rfl ⟨_, (by ((try simp [go_sem]); (try rfl); done)), _, (by (simp only [Act.put, List.setIfInBounds_toArray, List.set_cons_zero, List.set_cons_succ]; rfl)), ?_⟩
        refine lb_move _ (by kernel_rfl) rfl ⟨_, (by ((try simp [go_sem]); (try rfl); done)), _, (by (simp only [Act.put, List.setIfInBounds_toArray, List.set_cons_zero, List.set_cons_succ]; rfl)), ?_⟩
        refine lb_val (by kernel_rfl) ⟨_, (by (intro w' hC; clear hC; (try go_simp); (try with_reducible rfl); done)), _, (by (simp only [Act.put, List.setIfInBounds_toArray, List.set_cons_zero, List.set_cons_succ]; rfl)), ?_⟩
        refine lb_val (by kernel_rfl) ⟨_, (by (intro w' hC; (obtain ⟨x0, x1, x2, x3, x4, x5, x6, x7, x8⟩ := hx9.below hgb hC); clear hC; (try go_simp); (try with_reducible rfl); done)), _, (by (simp only [Act.put, List.setIfInBounds_toArray, List.set_cons_zero, List.set_cons_succ]; rfl)), ?_⟩
        refine lb_move _ (by kernel_rfl) rfl ⟨_, (by ((try simp [go_sem]); (try rfl); done)), _, (by (simp only [Act.put, List.setIfInBounds_toArray, List.set_cons_zero, List.set_cons_succ]; rfl)), ?_⟩
        refine lb_move _ (by kernel_rfl) rfl ⟨_, (by ((try simp [go_sem]); (try rfl); done)), _, (by (simp only [Act.put, List.setIfInBounds_toArray, List.set_cons_zero, List.set_cons_succ]; rfl)), ?_⟩
        refine lb_val (by kernel_rfl) ⟨_, (by (intro w' hC; clear hC; (try go_simp); (try with_reducible rfl); done)), _, (by (simp only [Act.put, List.setIfInBounds_toArray, List.set_cons_zero, List.set_cons_succ]; rfl)), ?_⟩
        refine lb_val (by kernel_rfl) ⟨_, (by (intro w' hC; (obtain ⟨y0, y1, y2, y3, y4, y5, y6, y7, y8⟩ := hy9.below hgb hC); clear hC; (try go_simp); (try with_reducible rfl); done)), _, (by (simp only [Act.put, List.setIfInBounds_toArray, List.set_cons_zero, List.set_cons_succ]; rfl)), ?_⟩
        refine lb_call (by kernel_rfl) (fun w' hC => HCM.out w' hC) (by (intro w'; go_simp; done)) ⟨_, (by (simp only [Act.put, List.setIfInBounds_toArray, List.set_cons_zero, List.set_cons_succ]; rfl)), ?_⟩
        refine lb_val (by kernel_rfl) ⟨_, (by (intro w' hC; clear hC; (try go_simp); (try with_reducible rfl); done)), _, (by (simp only [Act.put, List.setIfInBounds_toArray, List.set_cons_zero, List.set_cons_succ]; rfl)), ?_⟩
        refine lb_val (by kernel_rfl) ⟨_, (by (intro w' hC; clear hC; (try go_simp); (try with_reducible rfl); done)), _, (by (simp only [Act.put, List.setIfInBounds_toArray, List.set_cons_zero, List.set_cons_succ]; rfl)), ?_⟩
        refine .nil ?_
        intro w2 hb2
        have hbw2 := hbw.trans (hb2.mono hbw.size)
        clear hy9 hx9 HCM hb2 hbw
        go_wp2_with fail
        go_roundw
        case rel => exact ⟨h + 1, j, by omega, by omega, hjb, by go_num, rfl, HLo2, HHi, hbw2⟩
        case measure => have := HHD.out; simp [intOf]; omega
    · obtain rfl : i = j := by omega
      have hr2 := HR.out.below hbw
      have hf2 : Fr (fun b => b = g) w wr := (Fr.refl _ w).then_below hbw
      have hLi : i - a ≤ L.length := by have := HMA.out; omega
      obtain ⟨L1, hL1⟩ : ∃ L1, L1 = L.take (i - a) := ⟨_, rfl⟩
      obtain ⟨L2, hL2⟩ : ∃ L2, L2 = L.drop (i - a) := ⟨_, rfl⟩
      have HL12 : Hid (L = L1 ++ L2) := Lib.hid (by rw [hL1, hL2, List.take_append_drop])
      have HLL : Hid (i + L2.length = m) := Lib.hid (by rw [hL2, List.length_drop]; have := HMA.out; omega)
      have HL1 : Hid (a + L1.length = i) := Lib.hid (by rw [hL1, List.length_take]; omega)
      have HFIN : Hid (TT = P ++ L1 ++ x :: (L2 ++ Q)) := Lib.hid (by
        rw [HT.out, HL12.out, sym_last ordC (by rw [← HL12.out]; exact HS.out) (fun z hz => by
          rw [hL1] at hz
          obtain ⟨k, hk, e⟩ := List.mem_take_iff_getElem.1 hz
          exact HLo.out k z (by omega) (List.getElem?_eq_some_iff.2 ⟨by omega, e⟩)) (fun z hz => by
          rw [hL2] at hz
          obtain ⟨k, hk, e⟩ := List.getElem_of_mem hz
          rw [List.getElem_drop] at e
          exact HHi.out (i - a + k) z (by omega) (List.getElem?_eq_some_iff.2 ⟨by rw [List.length_drop] at hk; omega, e⟩))]
        simp)
      have HST : Hid (X = P ++ L1 ++ L2 ++ x :: ([] ++ Q)) := Lib.hid (by rw [HX.out, HL12.out]; simp)
      have HX2 := Lib.hid hr2
      clear hL1 hL2 hx9 HLo HHi hr2 hLi hbw
      go_wp2_with fail
      go_loopw [17] (fun kv wr => ∃ (k : Nat) (U V : List CV), i ≤ k ∧ k ≤ m ∧ kv = .int .i64 (k : Int) ∧ Hid (U ++ V = L2) ∧ Hid (i + U.length = k) ∧ RowC wr base (some ⟨g, off, none⟩) c (P ++ L1 ++ U ++ x :: (V ++ Q)) ∧ Fr (fun b => b = g) w wr) (fun kv _ => (intOf kv).toNat)
      case atStart => exact ⟨m, L2, [], hjb, Nat.le_refl _, rfl, Lib.hid (by simp), HLL, by rw [← HST.out]; exact HX2.out, hf2⟩
      case round =>
        obtain ⟨k, U, V, hak, hkz, rfl, HUV, HU, hr2, hf2⟩ := hrel
        rename World => w2
        by_cases hkl : i < k
        · obtain ⟨U2, y, hU2⟩ : ∃ U2 y, U = U2 ++ [y] := by
            have hne : U ≠ [] := by intro e; have := HU.out; rw [e] at this; simp at this; omega
            exact ⟨U.dropLast, U.getLast hne, (List.dropLast_concat_getLast hne).symm⟩
          obtain ⟨LL, hLL⟩ : ∃ LL, LL = P ++ L1 ++ U2 ++ y :: x :: (V ++ Q) := ⟨_, rfl⟩
          have hLV : P ++ L1 ++ U ++ x :: (V ++ Q) = LL := by rw [hLL, hU2]; simp
          rw [hLV] at hr2
          obtain ⟨k1, hk1⟩ : ∃ k1, k1 = k := ⟨_, rfl⟩
          subst hk1
          obtain ⟨k2, hk2⟩ : ∃ k2, k2 = k1 - 1 := ⟨_, rfl⟩
          have hk3 : k1 = k2 + 1 := by omega
          have hPU : (P ++ L1 ++ U2).length = k2 := by
            have h1 := HU.out
            rw [hU2, List.length_append, List.length_singleton] at h1
            rw [List.length_append, List.length_append, HP.out]
            have := HL1.out
            omega
          have hLn : LL.length = N := by
            rw [← hLV, HN.out, HST.out]
            simp only [List.length_append, List.length_cons, ← HUV.out, List.length_nil]; omega
          have hg2 : LL[k2]? = some y := by rw [hLL]; exact mid_get hPU
          have hg1 : LL[k1]? = some x := by rw [hLL, hk3]; exact mid_get1 hPU
          have hwk : IntKind.i64.wrap ((k1 : Int) - 1) = (k2 : Int) := by rw [IntKind.wrap_i64]; omega
          have hi1 : k1 < LL.length := by omega
          have hi2 : k2 < LL.length := by omega
          have hz1 : (k1 : Int) < (N : Int) := by omega
          have hz2 : (k2 : Int) < (N : Int) := by omega
          have hy1 : (0 : Int) ≤ (k1 : Int) := by omega
          have hy2 : (0 : Int) ≤ (k2 : Int) := by omega
          have hgb2 : g < w2.heap.size := (hr2.addr (by omega)).elim fun g' h => by obtain ⟨o', e, _, h3⟩ := h; injection e with e; injection e with e1 e2; rw [e1]; exact h3
          have HNX : Hid ((LL.set k1 y).set k2 x = P ++ L1 ++ U2 ++ x :: ((y :: V) ++ Q)) := Lib.hid (by rw [hLL, hk3, mid_swap hPU]; simp)
          have HK3 := Lib.hid hk3
          have HUV2 : Hid (U2 ++ (y :: V) = L2) := Lib.hid (by rw [← HUV.out, hU2]; simp)
          have HU2 := Lib.hid hU2
          have HLN := Lib.hid hLn
          clear hLL hLV hLn hU2 hPU hk2 hk3
          go_wp2_with fail
          have hC0 : Fr (fun b => b = g) w2 w2.drew := (Fr.refl (fun b => b = g) w2).drew
          have hx9' := (hr2.get hg1).below hgb2 (Below.refl w2.heap.size w2).drew
          have hy9' := (hr2.get hg2).below hgb2 (Below.refl w2.heap.size w2).drew
          have hrd := hr2.drew
          refine wp_region_plan (.tell 0 (.tell 1 (.tell 2 (.tell 3 (.tell 4 (.tell 5 (.tell 6 (.tell 7 (.tell 8 (.tell 10 (.tell 11 (.tell 12 (.two 9 (.one 13 (.tell 14 (.one 15 (.tell 16 (.one 17 .done))))) 13 (.one 9 (.tell 14 (.one 15 (.tell 16 (.one 17 .done)))))))))))))))))) (fun W => Fr (fun b => b = g) w2 W) _ (by kernel_rfl) (by kernel_rfl) ?_ (fun _ _ h => h)
          refine pl_val (by (simp only [List.getElem?_toArray, List.getElem?_cons_succ, List.getElem?_cons_zero]; rfl)) (by kernel_rfl) ⟨_, (by (intro w' hC; clear hC; (try go_simp); (try with_reducible rfl); done)), _, (by (simp only [Act.put, List.setIfInBounds_toArray, List.set_cons_zero, List.set_cons_succ]; rfl)), ?_⟩
          refine pl_val (by (simp only [List.getElem?_toArray, List.getElem?_cons_succ, List.getElem?_cons_zero]; rfl)) (by kernel_rfl) ⟨_, (by (intro w' hC; clear hC; (try go_simp); (try with_reducible rfl); done)), _, (by (simp only [Act.put, List.setIfInBounds_toArray, List.set_cons_zero, List.set_cons_succ]; rfl)), ?_⟩
          refine pl_val (by (simp only [List.getElem?_toArray, List.getElem?_cons_succ, List.getElem?_cons_zero]; rfl)) (by kernel_rfl) ⟨_, (by (intro w' hC; clear hC; (try go_simp); (try with_reducible rfl); done)), _, (by (simp only [Act.put, List.setIfInBounds_toArray, List.set_cons_zero, List.set_cons_succ]; rfl)), ?_⟩
          refine pl_val (by (simp only [List.getElem?_toArray, List.getElem?_cons_succ, List.getElem?_cons_zero]; rfl)) (by kernel_rfl) ⟨_, (by (intro w' hC; clear hC; (try go_simp); (try with_reducible rfl); done)), _, (by (simp only [Act.put, List.setIfInBounds_toArray, List.set_cons_zero, List.set_cons_succ]; rfl)), ?_⟩
          refine pl_val (by (simp only [List.getElem?_toArray, List.getElem?_cons_succ, List.getElem?_cons_zero]; rfl)) (by kernel_rfl) ⟨_, (by (intro w' hC; clear hC; (try go_simp); (try with_reducible rfl); done)), _, (by (simp only [Act.put, List.setIfInBounds_toArray, List.set_cons_zero, List.set_cons_succ]; rfl)), ?_⟩
          refine pl_val (by (simp only [List.getElem?_toArray, List.getElem?_cons_succ, List.getElem?_cons_zero]; rfl)) (by kernel_rfl) ⟨_, (by (intro w' hC; clear hC; (try go_simp); (try with_reducible rfl); done)), _, (by (simp only [Act.put, List.setIfInBounds_toArray, List.set_cons_zero, List.set_cons_succ]; rfl)), ?_⟩
          refine pl_val (by (simp only [List.getElem?_toArray, List.getElem?_cons_succ, List.getElem?_cons_zero]; rfl)) (by kernel_rfl) ⟨_, (by (intro w' hC; clear hC; (try go_simp); (try with_reducible rfl); done)), _, (by (simp only [Act.put, List.setIfInBounds_toArray, List.set_cons_zero, List.set_cons_succ]; rfl)), ?_⟩
          refine pl_val (by (simp only [List.getElem?_toArray, List.getElem?_cons_succ, List.getElem?_cons_zero]; rfl)) (by kernel_rfl) ⟨_, (by (intro w' hC; clear hC; (try go_simp); (try with_reducible rfl); done)), _, (by (simp only [Act.put, List.setIfInBounds_toArray, List.set_cons_zero, List.set_cons_succ]; rfl)), ?_⟩
          refine pl_val (by (simp only [List.getElem?_toArray, List.getElem?_cons_succ, List.getElem?_cons_zero]; rfl)) (by kernel_rfl) ⟨_, (by (intro w' hC; clear hC; (try go_simp); (try with_reducible rfl); done)), _, (by (simp only [Act.put, List.setIfInBounds_toArray, List.set_cons_zero, List.set_cons_succ]; rfl)), ?_⟩
          refine pl_val (by (simp only [List.getElem?_toArray, List.getElem?_cons_succ, List.getElem?_cons_zero]; rfl)) (by kernel_rfl) ⟨_, (by (intro w' hC; clear hC; (try go_simp); (try with_reducible rfl); done)), _, (by (simp only [Act.put, List.setIfInBounds_toArray, List.set_cons_zero, List.set_cons_succ]; rfl)), ?_⟩
          refine pl_val (by (simp only [List.getElem?_toArray, List.getElem?_cons_succ, List.getElem?_cons_zero]; rfl)) (by kernel_rfl) ⟨_, (by (intro w' hC; clear hC; (try go_simp); (try with_reducible rfl); done)), _, (by (simp only [Act.put, List.setIfInBounds_toArray, List.set_cons_zero, List.set_cons_succ]; rfl)), ?_⟩
          refine pl_val (by (simp only [List.getElem?_toArray, List.getElem?_cons_succ, List.getElem?_cons_zero]; rfl)) (by kernel_rfl) ⟨_, (by (intro w' hC; clear hC; (try go_simp); (try with_reducible rfl); done)), _, (by (simp only [Act.put, List.setIfInBounds_toArray, List.set_cons_zero, List.set_cons_succ]; rfl)), ?_⟩
          clear hr2
          generalize w2.drew = wd at *
          obtain ⟨x0, x1, x2, x3, x4, x5, x6, x7, x8⟩ := hx9'
          obtain ⟨y0, y1, y2, y3, y4, y5, y6, y7, y8⟩ := hy9'
          have fz := fun o => hrd.frozen o
          refine pl_two (by (simp only [List.getElem?_toArray, List.getElem?_cons_succ, List.getElem?_cons_zero]; rfl)) (by (simp only [List.getElem?_toArray, List.getElem?_cons_succ, List.getElem?_cons_zero]; rfl)) hC0 ?_ ?_
          · refine al_val (by kernel_rfl) ⟨_, _, (by (go_simp; first | done | exact ⟨rfl, rfl⟩)), _, (by (simp only [Act.put, List.setIfInBounds_toArray, List.set_cons_zero, List.set_cons_succ]; rfl)), ?_⟩
            refine pl_one (by (simp only [List.getElem?_toArray, List.getElem?_cons_succ, List.getElem?_cons_zero]; rfl)) hC0 ?_
            refine al_val (by kernel_rfl) ⟨_, _, (by (go_simp; first | done | exact ⟨rfl, rfl⟩)), _, (by (simp only [Act.put, List.setIfInBounds_toArray, List.set_cons_zero, List.set_cons_succ]; rfl)), ?_⟩
            refine pl_val (by (simp only [List.getElem?_toArray, List.getElem?_cons_succ, List.getElem?_cons_zero]; rfl)) (by kernel_rfl) ⟨_, (by (intro w' hC; clear hC; (try go_simp); (try with_reducible rfl); done)), _, (by (simp only [Act.put, List.setIfInBounds_toArray, List.set_cons_zero, List.set_cons_succ]; rfl)), ?_⟩
            refine pl_one (by (simp only [List.getElem?_toArray, List.getElem?_cons_succ, List.getElem?_cons_zero]; rfl)) hC0 ?_
            refine al_skip (by kernel_rfl) ⟨_, (by (go_simp; first | done | rfl)), _, (by (simp only [Act.put, List.setIfInBounds_toArray, List.set_cons_zero, List.set_cons_succ]; rfl)), ?_⟩
            have hr3 := RowC.setCh hrd hi1 y
            change RowC (((((((((wd.setCell ⟨g, off + k1 * 9, none⟩ (.string y.p)).setCell ⟨g, off + k1 * 9 + 1, none⟩ (.int .i64 y.b)).setCell ⟨g, off + k1 * 9 + 2, none⟩ (.bool y.m)).setCell ⟨g, off + k1 * 9 + 3, none⟩ (.bool y.t)).setCell ⟨g, off + k1 * 9 + 4, none⟩ (.int .i64 y.k)).setCell ⟨g, off + k1 * 9 + 5, none⟩ (.int .i64 y.o)).setCell ⟨g, off + k1 * 9 + 6, none⟩ (.int .i64 y.s)).setCell ⟨g, off + k1 * 9 + 7, none⟩ (.int .i64 y.l)).setCell ⟨g, off + k1 * 9 + 8, none⟩ (.int .i64 y.v)) base (some ⟨g, off, none⟩) c (LL.set k1 y) at hr3
            have hf3 : Fr (fun b => b = g) w2 (((((((((wd.setCell ⟨g, off + k1 * 9, none⟩ (.string y.p)).setCell ⟨g, off + k1 * 9 + 1, none⟩ (.int .i64 y.b)).setCell ⟨g, off + k1 * 9 + 2, none⟩ (.bool y.m)).setCell ⟨g, off + k1 * 9 + 3, none⟩ (.bool y.t)).setCell ⟨g, off + k1 * 9 + 4, none⟩ (.int .i64 y.k)).setCell ⟨g, off + k1 * 9 + 5, none⟩ (.int .i64 y.o)).setCell ⟨g, off + k1 * 9 + 6, none⟩ (.int .i64 y.s)).setCell ⟨g, off + k1 * 9 + 7, none⟩ (.int .i64 y.l)).setCell ⟨g, off + k1 * 9 + 8, none⟩ (.int .i64 y.v)) := hC0.trans (setCh_fr wd g (off + k1 * 9) y) (fun _ _ e => e)
            clear x0 x1 x2 x3 x4 x5 x6 x7 x8 y0 y1 y2 y3 y4 y5 y6 y7 y8 fz
            generalize (((((((((wd.setCell ⟨g, off + k1 * 9, none⟩ (.string y.p)).setCell ⟨g, off + k1 * 9 + 1, none⟩ (.int .i64 y.b)).setCell ⟨g, off + k1 * 9 + 2, none⟩ (.bool y.m)).setCell ⟨g, off + k1 * 9 + 3, none⟩ (.bool y.t)).setCell ⟨g, off + k1 * 9 + 4, none⟩ (.int .i64 y.k)).setCell ⟨g, off + k1 * 9 + 5, none⟩ (.int .i64 y.o)).setCell ⟨g, off + k1 * 9 + 6, none⟩ (.int .i64 y.s)).setCell ⟨g, off + k1 * 9 + 7, none⟩ (.int .i64 y.l)).setCell ⟨g, off + k1 * 9 + 8, none⟩ (.int .i64 y.v)) = w3 at *
            have hk0 : k2 < (LL.set k1 y).length := by rw [List.length_set]; exact hi2
            have hy3 := hr3.at9 hk0
            obtain ⟨y0, y1, y2, y3, y4, y5, y6, y7, y8⟩ := hy3
            have fz := fun o => hr3.frozen o
            refine pl_val (by (simp only [List.getElem?_toArray, List.getElem?_cons_succ, List.getElem?_cons_zero]; rfl)) (by kernel_rfl) ⟨_, (by (intro w' hC; clear hC; (try go_simp); (try with_reducible rfl); done)), _, (by (simp only [Act.put, List.setIfInBounds_toArray, List.set_cons_zero, List.set_cons_succ]; rfl)), ?_⟩
            refine pl_one (by (simp only [List.getElem?_toArray, List.getElem?_cons_succ, List.getElem?_cons_zero]; rfl)) hf3 ?_
            refine al_skip (by kernel_rfl) ⟨_, (by (go_simp; first | done | rfl)), _, (by (simp only [Act.put, List.setIfInBounds_toArray, List.set_cons_zero, List.set_cons_succ]; rfl)), ?_⟩
            have hr5 := RowC.setCh hr3 hk0 x
            change RowC (((((((((w3.setCell ⟨g, off + k2 * 9, none⟩ (.string x.p)).setCell ⟨g, off + k2 * 9 + 1, none⟩ (.int .i64 x.b)).setCell ⟨g, off + k2 * 9 + 2, none⟩ (.bool x.m)).setCell ⟨g, off + k2 * 9 + 3, none⟩ (.bool x.t)).setCell ⟨g, off + k2 * 9 + 4, none⟩ (.int .i64 x.k)).setCell ⟨g, off + k2 * 9 + 5, none⟩ (.int .i64 x.o)).setCell ⟨g, off + k2 * 9 + 6, none⟩ (.int .i64 x.s)).setCell ⟨g, off + k2 * 9 + 7, none⟩ (.int .i64 x.l)).setCell ⟨g, off + k2 * 9 + 8, none⟩ (.int .i64 x.v)) base (some ⟨g, off, none⟩) c ((LL.set k1 y).set k2 x) at hr5
            have hf5 : Fr (fun b => b = g) w2 (((((((((w3.setCell ⟨g, off + k2 * 9, none⟩ (.string x.p)).setCell ⟨g, off + k2 * 9 + 1, none⟩ (.int .i64 x.b)).setCell ⟨g, off + k2 * 9 + 2, none⟩ (.bool x.m)).setCell ⟨g, off + k2 * 9 + 3, none⟩ (.bool x.t)).setCell ⟨g, off + k2 * 9 + 4, none⟩ (.int .i64 x.k)).setCell ⟨g, off + k2 * 9 + 5, none⟩ (.int .i64 x.o)).setCell ⟨g, off + k2 * 9 + 6, none⟩ (.int .i64 x.s)).setCell ⟨g, off + k2 * 9 + 7, none⟩ (.int .i64 x.l)).setCell ⟨g, off + k2 * 9 + 8, none⟩ (.int .i64 x.v)) := hf3.trans (setCh_fr w3 g (off + k2 * 9) x) (fun _ _ e => e)
            refine pl_end hf5 ?_
            simp only [Plan.count, Nat.reduceAdd, List.drop_succ_cons, List.drop_zero]
            generalize (((((((((w3.setCell ⟨g, off + k2 * 9, none⟩ (.string x.p)).setCell ⟨g, off + k2 * 9 + 1, none⟩ (.int .i64 x.b)).setCell ⟨g, off + k2 * 9 + 2, none⟩ (.bool x.m)).setCell ⟨g, off + k2 * 9 + 3, none⟩ (.bool x.t)).setCell ⟨g, off + k2 * 9 + 4, none⟩ (.int .i64 x.k)).setCell ⟨g, off + k2 * 9 + 5, none⟩ (.int .i64 x.o)).setCell ⟨g, off + k2 * 9 + 6, none⟩ (.int .i64 x.s)).setCell ⟨g, off + k2 * 9 + 7, none⟩ (.int .i64 x.l)).setCell ⟨g, off + k2 * 9 + 8, none⟩ (.int .i64 x.v)) = w5 at *
            clear y0 y1 y2 y3 y4 y5 y6 y7 y8 fz hr3 hf3 hrd hC0 hk0
            have HR5 : Hid (RowC w5 base (some ⟨g, off, none⟩) c (P ++ L1 ++ U2 ++ x :: ((y :: V) ++ Q))) := Lib.hid (by rw [← HNX.out]; exact hr5)
            have HF5 := Lib.hid (hf2.trans hf5 (fun _ _ e => e))
            have hk3e := HK3.out
            clear hr5 hf5
            go_wp2_with fail
            go_roundw
            case rel => exact ⟨k2, U2, y :: V, by omega, by omega, rfl, HUV2, Lib.hid (by have := HU.out; rw [HU2.out, List.length_append, List.length_singleton] at this; omega), HR5.out, HF5.out⟩
            case measure => simp [intOf]; omega
          · refine al_val (by kernel_rfl) ⟨_, _, (by (go_simp; first | done | exact ⟨rfl, rfl⟩)), _, (by (simp only [Act.put, List.setIfInBounds_toArray, List.set_cons_zero, List.set_cons_succ]; rfl)), ?_⟩
            refine pl_one (by (simp only [List.getElem?_toArray, List.getElem?_cons_succ, List.getElem?_cons_zero]; rfl)) hC0 ?_
            refine al_val (by kernel_rfl) ⟨_, _, (by (go_simp; first | done | exact ⟨rfl, rfl⟩)), _, (by (simp only [Act.put, List.setIfInBounds_toArray, List.set_cons_zero, List.set_cons_succ]; rfl)), ?_⟩
            refine pl_val (by (simp only [List.getElem?_toArray, List.getElem?_cons_succ, List.getElem?_cons_zero]; rfl)) (by kernel_rfl) ⟨_, (by (intro w' hC; clear hC; (try go_simp); (try with_reducible rfl); done)), _, (by (simp only [Act.put, List.setIfInBounds_toArray, List.set_cons_zero, List.set_cons_succ]; rfl)), ?_⟩
            refine pl_one (by (simp only [List.getElem?_toArray, List.getElem?_cons_succ, List.getElem?_cons_zero]; rfl)) hC0 ?_
            refine al_skip (by kernel_rfl) ⟨_, (by (go_simp; first | done | rfl)), _, (by (simp only [Act.put, List.setIfInBounds_toArray, List.set_cons_zero, List.set_cons_succ]; rfl)), ?_⟩
            have hr3 := RowC.setCh hrd hi1 y
            change RowC (((((((((wd.setCell ⟨g, off + k1 * 9, none⟩ (.string y.p)).setCell ⟨g, off + k1 * 9 + 1, none⟩ (.int .i64 y.b)).setCell ⟨g, off + k1 * 9 + 2, none⟩ (.bool y.m)).setCell ⟨g, off + k1 * 9 + 3, none⟩ (.bool y.t)).setCell ⟨g, off + k1 * 9 + 4, none⟩ (.int .i64 y.k)).setCell ⟨g, off + k1 * 9 + 5, none⟩ (.int .i64 y.o)).setCell ⟨g, off + k1 * 9 + 6, none⟩ (.int .i64 y.s)).setCell ⟨g, off + k1 * 9 + 7, none⟩ (.int .i64 y.l)).setCell ⟨g, off + k1 * 9 + 8, none⟩ (.int .i64 y.v)) base (some ⟨g, off, none⟩) c (LL.set k1 y) at hr3
            have hf3 : Fr (fun b => b = g) w2 (((((((((wd.setCell ⟨g, off + k1 * 9, none⟩ (.string y.p)).setCell ⟨g, off + k1 * 9 + 1, none⟩ (.int .i64 y.b)).setCell ⟨g, off + k1 * 9 + 2, none⟩ (.bool y.m)).setCell ⟨g, off + k1 * 9 + 3, none⟩ (.bool y.t)).setCell ⟨g, off + k1 * 9 + 4, none⟩ (.int .i64 y.k)).setCell ⟨g, off + k1 * 9 + 5, none⟩ (.int .i64 y.o)).setCell ⟨g, off + k1 * 9 + 6, none⟩ (.int .i64 y.s)).setCell ⟨g, off + k1 * 9 + 7, none⟩ (.int .i64 y.l)).setCell ⟨g, off + k1 * 9 + 8, none⟩ (.int .i64 y.v)) := hC0.trans (setCh_fr wd g (off + k1 * 9) y) (fun _ _ e => e)
            clear x0 x1 x2 x3 x4 x5 x6 x7 x8 y0 y1 y2 y3 y4 y5 y6 y7 y8 fz
            generalize (((((((((wd.setCell ⟨g, off + k1 * 9, none⟩ (.string y.p)).setCell ⟨g, off + k1 * 9 + 1, none⟩ (.int .i64 y.b)).setCell ⟨g, off + k1 * 9 + 2, none⟩ (.bool y.m)).setCell ⟨g, off + k1 * 9 + 3, none⟩ (.bool y.t)).setCell ⟨g, off + k1 * 9 + 4, none⟩ (.int .i64 y.k)).setCell ⟨g, off + k1 * 9 + 5, none⟩ (.int .i64 y.o)).setCell ⟨g, off + k1 * 9 + 6, none⟩ (.int .i64 y.s)).setCell ⟨g, off + k1 * 9 + 7, none⟩ (.int .i64 y.l)).setCell ⟨g, off + k1 * 9 + 8, none⟩ (.int .i64 y.v)) = w3 at *
            have hk0 : k2 < (LL.set k1 y).length := by rw [List.length_set]; exact hi2
            have hy3 := hr3.at9 hk0
            obtain ⟨y0, y1, y2, y3, y4, y5, y6, y7, y8⟩ := hy3
            have fz := fun o => hr3.frozen o
            refine pl_val (by (simp only [List.getElem?_toArray, List.getElem?_cons_succ, List.getElem?_cons_zero]; rfl)) (by kernel_rfl) ⟨_, (by (intro w' hC; clear hC; (try go_simp); (try with_reducible rfl); done)), _, (by (simp only [Act.put, List.setIfInBounds_toArray, List.set_cons_zero, List.set_cons_succ]; rfl)), ?_⟩
            refine pl_one (by (simp only [List.getElem?_toArray, List.getElem?_cons_succ, List.getElem?_cons_zero]; rfl)) hf3 ?_
            refine al_skip (by kernel_rfl) ⟨_, (by (go_simp; first | done | rfl)), _, (by (simp only [Act.put, List.setIfInBounds_toArray, List.set_cons_zero, List.set_cons_succ]; rfl)), ?_⟩
            have hr5 := RowC.setCh hr3 hk0 x
            change RowC (((((((((w3.setCell ⟨g, off + k2 * 9, none⟩ (.string x.p)).setCell ⟨g, off + k2 * 9 + 1, none⟩ (.int .i64 x.b)).setCell ⟨g, off + k2 * 9 + 2, none⟩ (.bool x.m)).setCell ⟨g, off + k2 * 9 + 3, none⟩ (.bool x.t)).setCell ⟨g, off + k2 * 9 + 4, none⟩ (.int .i64 x.k)).setCell ⟨g, off + k2 * 9 + 5, none⟩ (.int .i64 x.o)).setCell ⟨g, off + k2 * 9 + 6, none⟩ (.int .i64 x.s)).setCell ⟨g, off + k2 * 9 + 7, none⟩ (.int .i64 x.l)).setCell ⟨g, off + k2 * 9 + 8, none⟩ (.int .i64 x.v)) base (some ⟨g, off, none⟩) c ((LL.set k1 y).set k2 x) at hr5
            have hf5 : Fr (fun b => b = g) w2 (((((((((w3.setCell ⟨g, off + k2 * 9, none⟩ (.string x.p)).setCell ⟨g, off + k2 * 9 + 1, none⟩ (.int .i64 x.b)).setCell ⟨g, off + k2 * 9 + 2, none⟩ (.bool x.m)).setCell ⟨g, off + k2 * 9 + 3, none⟩ (.bool x.t)).setCell ⟨g, off + k2 * 9 + 4, none⟩ (.int .i64 x.k)).setCell ⟨g, off + k2 * 9 + 5, none⟩ (.int .i64 x.o)).setCell ⟨g, off + k2 * 9 + 6, none⟩ (.int .i64 x.s)).setCell ⟨g, off + k2 * 9 + 7, none⟩ (.int .i64 x.l)).setCell ⟨g, off + k2 * 9 + 8, none⟩ (.int .i64 x.v)) := hf3.trans (setCh_fr w3 g (off + k2 * 9) x) (fun _ _ e => e)
            refine pl_end hf5 ?_
            simp only [Plan.count, Nat.reduceAdd, List.drop_succ_cons, List.drop_zero]
            generalize (((((((((w3.setCell ⟨g, off + k2 * 9, none⟩ (.string x.p)).setCell ⟨g, off + k2 * 9 + 1, none⟩ (.int .i64 x.b)).setCell ⟨g, off + k2 * 9 + 2, none⟩ (.bool x.m)).setCell ⟨g, off + k2 * 9 + 3, none⟩ (.bool x.t)).setCell ⟨g, off + k2 * 9 + 4, none⟩ (.int .i64 x.k)).setCell ⟨g, off + k2 * 9 + 5, none⟩ (.int .i64 x.o)).setCell ⟨g, off + k2 * 9 + 6, none⟩ (.int .i64 x.s)).setCell ⟨g, off + k2 * 9 + 7, none⟩ (.int .i64 x.l)).setCell ⟨g, off + k2 * 9 + 8, none⟩ (.int .i64 x.v)) = w5 at *
            clear y0 y1 y2 y3 y4 y5 y6 y7 y8 fz hr3 hf3 hrd hC0 hk0
            have HR5 : Hid (RowC w5 base (some ⟨g, off, none⟩) c (P ++ L1 ++ U2 ++ x :: ((y :: V) ++ Q))) := Lib.hid (by rw [← HNX.out]; exact hr5)
            have HF5 := Lib.hid (hf2.trans hf5 (fun _ _ e => e))
            have hk3e := HK3.out
            clear hr5 hf5
            go_wp2_with fail
            go_roundw
            case rel => exact ⟨k2, U2, y :: V, by omega, by omega, rfl, HUV2, Lib.hid (by have := HU.out; rw [HU2.out, List.length_append, List.length_singleton] at this; omega), HR5.out, HF5.out⟩
            case measure => simp [intOf]; omega
        · obtain rfl : k = i := by omega
          have HRE : Hid (RowC w2 base (some ⟨g, off, none⟩) c TT) := Lib.hid (by
            have h1 := HUV.out
            have h2 := HU.out
            have hU : U = [] := by
              apply List.eq_nil_of_length_eq_zero
              omega
            have hV : V = L2 := by rw [hU, List.nil_append] at h1; exact h1
            rw [HFIN.out, ← hV]
            rw [hU, List.append_nil] at hr2
            exact hr2)
          have HFE : Hid (Fr (fun b => ablk (some (⟨g, off, none⟩ : Addr)) = some b) w w2) := Lib.hid (hf2.mono fun _ _ e => by rw [e]; rfl)
          clear hr2 hf2 HUV
          go_wp2_with fail
          (try simp only [Exit.inBlock, Exit.then])
          refine bodyPost_ret (results_none rfl _ _ _) rfl ?_
          exact ⟨rfl, HRE.out, HFE.out⟩

end Go.Proofs.YtkeledbgmpienaaGreat
