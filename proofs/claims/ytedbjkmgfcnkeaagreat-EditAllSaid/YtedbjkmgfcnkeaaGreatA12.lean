/- tenderref10.Apply; edit.Apply at a tree that is none. -/
import Derived.Test.YtedbjkmgfcnkeaaGreatA11

namespace Go.Proofs.YtedbjkmgfcnkeaaGreat
open Go.RowKit Go.Maps


set_option maxRecDepth 100000 in
set_option maxHeartbeats 4000000 in
theorem refApply10_any (B : Option Addr) (d : Nat) (L : List (List UInt8 × LV)) (x : XV) (Z : Nat → Prop) (w : World) (h : Its w B L) (hok : TreeOk (plainL L)) (hx : x.ok w Z) (hs : x.p.length ≤ 20000 ∧ x.t.length ≤ 20000 ∧ x.d.l.length ≤ 20000) :
    Calls Tryz.prog 11 #[.slice B L.length d, .agg #[.int .i64 x.k, .string ⟨⟨x.p⟩⟩, .string ⟨⟨x.t⟩⟩, .slice x.d.A x.d.l.length x.d.c]] w fun e w' => ∃ (A : Option Addr) (c : Nat) (M : List (List UInt8 × LV)), e = .returned (.tuple #[.slice A M.length c, .int .i64 (errA (plainL L) x)]) ∧ Hid (plainL M = stepA (plainL L) x) ∧ Its w' A M ∧ Below w.heap.size w w' := by
  obtain ⟨T, hT⟩ : ∃ T, T = plainL L := ⟨_, rfl⟩
  have hTT : Hid (plainL L = T) := Lib.hid hT.symm
  obtain ⟨hxp, hxt, hxd⟩ := hs
  have HT := Lib.hid h
  have HOK : Hid (TreeOk T) := Lib.hid (by rw [hT]; exact hok)
  have hw0 : Below w.heap.size w (w.alloc (.cells #[.int .i64 x.k, .string ⟨⟨x.p⟩⟩, .string ⟨⟨x.t⟩⟩, .slice x.d.A x.d.l.length x.d.c] 35)) := (by repeat (first | exact Below.refl _ _ | refine Below.alloc ?_ (by simp) _ | refine Below.setCell ?_ (by simp) _ | refine Below.drew ?_))
  have x0 := Blk.new w 35 #[.int .i64 x.k, .string ⟨⟨x.p⟩⟩, .string ⟨⟨x.t⟩⟩, .slice x.d.A x.d.l.length x.d.c]
  have q0 := x0.cell 0
  have q1 := x0.cell 1
  have q2 := x0.cell 2
  have q3 := x0.cell 3
  simp only [List.getElem?_toArray, List.getElem?_cons_zero, List.getElem?_cons_succ] at q0 q1 q2 q3
  have HI := Lib.hid (refItems10_any B d L x.k x.p x.t x.d.A x.d.c x.d.l Z _ (h.below hw0) hok (by omega) (by omega) (hx.d.below hw0) (by omega))
  rw [← hT] at HI ⊢
  have her : errA T x = (itemsS T x.k x.p x.t x.d.l).2 := rfl
  have hst : stepA T x = playS T (itemsS T x.k x.p x.t x.d.l).1 := rfl
  have hRs := items_small HOK.out x.k x.p x.t x.d.l (by omega)
  rw [her, hst]
  obtain ⟨R, hR⟩ : ∃ R, R = itemsS T x.k x.p x.t x.d.l := ⟨_, rfl⟩
  rw [← hR] at HI hRs ⊢
  obtain ⟨r2, hr2⟩ : ∃ r2, r2 = R.2 := ⟨_, rfl⟩
  rw [← hr2] at HI ⊢
  clear h hT hok hx her hst hR x0 hr2
  go_enter Tryz.func11, Tryz.ntmps11
  go_wp2_with fail
  refine HI.out.mono ?_
  rintro e w1 ⟨A, c, M, rfl, hM, hO, hb1⟩
  have hw1 := hw0.trans (hb1.mono hw0.size)
  have HO := Lib.hid hO
  have hMl : M.length ≤ 300 := by rw [← plain_len, hM.out]; exact hRs.1
  have HSM : Hid (∀ x ∈ M, x.1.length ≤ 1048576 ∧ x.2.x.l.length ≤ 140737488355328) := Lib.hid (fun x hx => by
    have := hRs.2 (x.1, x.2.p) (by rw [← hM.out]; exact List.mem_map.2 ⟨x, hx, rfl⟩)
    have h2 : x.2.x.l.length ≤ 4096 := this.2
    exact ⟨this.1, by omega⟩)
  have HT1 := Lib.hid (HT.out.below hw1)
  have HM := Lib.hid hM
  clear hO hb1 HI q0 q1 q2 q3 hRs hM
  go_wp2_with fail
  go_loopw [0, 8] (fun tv iv wr => ∃ (i : Nat) (B2 : Option Addr) (d2 : Nat) (K : List (List UInt8 × LV)), i ≤ M.length ∧ iv = .int .i64 (i : Int) ∧ tv = .slice B2 K.length d2 ∧ Its wr B2 K ∧ Hid (playS T (plainL (M.take i)) = plainL K) ∧ Its wr A M ∧ Below w.heap.size w wr) (fun _ iv _ => M.length - (intOf iv).toNat)
  case atStart => exact ⟨0, B, d, L, Nat.zero_le _, rfl, rfl, HT1.out, by show _ = _; rw [hTT.out]; rfl, HO.out, hw1⟩
  case round =>
    obtain ⟨i, B2, d2, K, hi, rfl, rfl, hK, hn, hOr, hb⟩ := hrel
    by_cases hlt : i < M.length
    · obtain ⟨b, off, hA, hbr, c0, c1, c2⟩ := hOr.at_ hlt
      have hxo := hOr.ok _ (List.getElem_mem hlt)
      have hps : playS T (plainL (M.take (i + 1))) = setS (plainL K) M[i].1 M[i].2.p := by rw [plain_snoc M i hlt, play_snoc, hn.out]
      have hokK : TreeOk (plainL K) := by have := play_ok T (plainL (M.take i)) HOK.out; rw [hn.out] at this; exact this
      have hxl := HSM.out _ (List.getElem_mem hlt)
      subst hA
      obtain ⟨y, hy⟩ : ∃ y, y = M[i] := ⟨_, rfl⟩
      rw [← hy] at c0 c1 c2 hxo hxl hps
      simp only [stv] at c0
      have HPS := Lib.hid hps
      have HOR := Lib.hid hOr
      have HS := Lib.hid (fun W (hC : Below wr.heap.size wr W) => refSet_any B2 d2 K y.1 y.2.k y.2.x.A y.2.x.c y.2.x.l W (hK.below hC) hokK (hxo.below hC) hxl.1 hxl.2)
      obtain ⟨ms, hms⟩ : ∃ ms, ms = mayS (plainL K) y.1 (y.2.k, y.2.x.l) := ⟨_, rfl⟩
      have HMS := Lib.hid hms
      have hb' := hb
      rw [← hms] at HS
      clear hK hxo hy hps hn hms hOr HO hxl hokK
      go_wp2_with fail
      refine wp_region_m [true, true, true, true, true, true, true, true, true, true, true, false, true, true, true, true] (fun W => Below wr.heap.size wr W) (by kernel_rfl) (by kernel_rfl) ?_
      simp only [List.length_cons, List.length_nil, Nat.zero_add, Nat.reduceAdd, List.take_succ_cons, List.take_zero, List.drop_succ_cons, List.drop_zero]
      refine mx_move _ (by kernel_rfl) rfl ⟨_, (by ((try simp [go_sem]); (try rfl); done)), _, (by (simp only [Act.put, List.setIfInBounds_toArray, List.set_cons_zero, List.set_cons_succ]; rfl)), ?_⟩
      refine mx_move _ (by kernel_rfl) rfl ⟨_, (by ((try simp [go_sem]); (try rfl); done)), _, (by (simp only [Act.put, List.setIfInBounds_toArray, List.set_cons_zero, List.set_cons_succ]; rfl)), ?_⟩
      refine mx_move _ (by kernel_rfl) rfl ⟨_, (by ((try simp [go_sem]); (try rfl); done)), _, (by (simp only [Act.put, List.setIfInBounds_toArray, List.set_cons_zero, List.set_cons_succ]; rfl)), ?_⟩
      refine mx_val (by kernel_rfl) ⟨_, (by (intro w' hC; clear hC; (try go_simp); (try with_reducible rfl); done)), _, (by (simp only [Act.put, List.setIfInBounds_toArray, List.set_cons_zero, List.set_cons_succ]; rfl)), ?_⟩
      refine mx_val (by kernel_rfl) ⟨_, (by (intro w' hC; clear hC; (try go_simp); (try with_reducible rfl); done)), _, (by (simp only [Act.put, List.setIfInBounds_toArray, List.set_cons_zero, List.set_cons_succ]; rfl)), ?_⟩
      refine mx_val (by kernel_rfl) ⟨_, (by (intro w' hC; (have q := cellAt hC hbr c0); clear hC; (try go_simp); (try with_reducible rfl); done)), _, (by (simp only [Act.put, List.setIfInBounds_toArray, List.set_cons_zero, List.set_cons_succ]; rfl)), ?_⟩
      refine mx_move _ (by kernel_rfl) rfl ⟨_, (by ((try simp [go_sem]); (try rfl); done)), _, (by (simp only [Act.put, List.setIfInBounds_toArray, List.set_cons_zero, List.set_cons_succ]; rfl)), ?_⟩
      refine mx_move _ (by kernel_rfl) rfl ⟨_, (by ((try simp [go_sem]); (try rfl); done)), _, (by (simp only [Act.put, List.setIfInBounds_toArray, List.set_cons_zero, List.set_cons_succ]; rfl)), ?_⟩
      refine mx_val (by kernel_rfl) ⟨_, (by (intro w' hC; clear hC; (try go_simp); (try with_reducible rfl); done)), _, (by (simp only [Act.put, List.setIfInBounds_toArray, List.set_cons_zero, List.set_cons_succ]; rfl)), ?_⟩
      refine mx_val (by kernel_rfl) ⟨_, (by (intro w' hC; clear hC; (try go_simp); (try with_reducible rfl); done)), _, (by (simp only [Act.put, List.setIfInBounds_toArray, List.set_cons_zero, List.set_cons_succ]; rfl)), ?_⟩
      refine mx_val (by kernel_rfl) ⟨_, (by (intro w' hC; (have q := cellAt hC hbr c1; have q2 := cellAt hC hbr c2); clear hC; (try go_simp); (try with_reducible rfl); done)), _, (by (simp only [Act.put, List.setIfInBounds_toArray, List.set_cons_zero, List.set_cons_succ]; rfl)), ?_⟩
      refine mx_call ((Below.refl _ _).drew) (by kernel_rfl) ?_ (HS.out _ (Below.refl _ _).drew) ?_
      · (go_simp; done)
      rintro e w4 ⟨B3, d3, L3, rfl, hL3, hI3, hb4⟩
      replace hb4 : Below wr.heap.size wr w4 := (Below.refl _ _).drew.trans (hb4.mono (Nat.le_refl _))
      refine ⟨_, rfl, _, (by (simp only [Act.put, List.setIfInBounds_toArray, List.set_cons_zero, List.set_cons_succ]; rfl)), ?_⟩
      refine mx_move _ (by kernel_rfl) rfl ⟨_, (by ((try simp [go_sem]); (try rfl); done)), _, (by (simp only [Act.put, List.setIfInBounds_toArray, List.set_cons_zero, List.set_cons_succ]; rfl)), ?_⟩
      refine mx_val (by kernel_rfl) ⟨_, (by (intro w' hC; clear hC; (try go_simp); (try with_reducible rfl); done)), _, (by (simp only [Act.put, List.setIfInBounds_toArray, List.set_cons_zero, List.set_cons_succ]; rfl)), ?_⟩
      refine mx_val (by kernel_rfl) ⟨_, (by (intro w' hC; clear hC; (try go_simp); (try with_reducible rfl); done)), _, (by (simp only [Act.put, List.setIfInBounds_toArray, List.set_cons_zero, List.set_cons_succ]; rfl)), ?_⟩
      refine mx_assign _ (by kernel_rfl) rfl ⟨_, (by ((try simp [go_sem]); (try rfl); done)), _, (by (simp only [Act.put, List.setIfInBounds_toArray, List.set_cons_zero, List.set_cons_succ]; rfl)), ?_⟩
      refine mx_end hb4 ?_
      have hw4 := hb'.trans (hb4.mono hb'.size)
      have HO4 := Lib.hid (HOR.out.below hb4)
      have HI3 := Lib.hid hI3
      have HN2 : Hid (playS T (plainL (M.take (i + 1))) = plainL L3) := Lib.hid (by
        have h5 := plain_step K y.1 y.2
        rw [show y.2.p = (y.2.k, y.2.x.l) from rfl, ← HMS.out] at h5
        rw [HPS.out]
        show setS (plainL K) y.1 (y.2.k, y.2.x.l) = plainL L3
        rw [← h5, hL3.out])
      clear hI3 hL3 hb4 c0 c1 c2 HS HOR HPS HMS
      go_wp2_with fail
      go_roundw
      case rel => exact ⟨i + 1, B3, d3, L3, hlt, by go_num, rfl, HI3.out, HN2, HO4.out, hw4⟩
      case measure => simp [intOf]; omega
    · have e : i = M.length := by omega
      subst e
      rw [List.take_length, HM.out.out] at hn
      have HN := Lib.hid hn
      clear hn HM
      go_wp2_with fail
      go_ret2
      exact ⟨B2, d2, K, rfl, HN.out.out.symm, hK, hb⟩


set_option maxRecDepth 100000 in
set_option maxHeartbeats 1000000 in
theorem editApply_nil (A : Option Addr) (c : Nat) (X : List XV) (Z : Nat → Prop) (w : World) (hX : EdZ w Z A X) (hs : X.length ≤ 60) :
    Calls Tryz.prog 10 #[.pointer none, .slice A X.length c] w fun e w' => ∃ (Ae : Option Addr) (ce : Nat), e = .returned (.slice Ae X.length ce) ∧ OwE w' w.heap.size Ae ce (List.replicate X.length 1) ∧ Below w.heap.size w w' := by
  have HX := Lib.hid hX
  clear hX
  go_enter Tryz.func10, Tryz.ntmps10
  go_wp2_with fail
  go_loopw [4, 13] (fun ov iv wr => ∃ (i : Nat) (Ae : Option Addr) (ce : Nat) (es : List Int), i ≤ X.length ∧ iv = .int .i64 (i : Int) ∧ ov = .slice Ae es.length ce ∧ OwE wr w.heap.size Ae ce es ∧ Hid (es = List.replicate i 1) ∧ Below w.heap.size w wr) (fun _ iv _ => X.length - (intOf iv).toNat)
  case atStart => exact ⟨0, none, 0, [], Nat.zero_le _, rfl, rfl, World.ownsRow_nil _ _ _ _, rfl, Below.refl _ _⟩
  case round =>
    obtain ⟨i, Ae, ce, es, hi, rfl, rfl, hE, hes, hb⟩ := hrel
    by_cases hlt : i < X.length
    · obtain ⟨b, off, hA, hbb, c0, c1, c2, c3⟩ := (HX.out.fr (Fr.of_below hb (fun _ => False)) (fun _ _ _ e => e)).at_ hlt
      subst hA
      obtain ⟨x, hx⟩ : ∃ x, x = X[i] := ⟨_, rfl⟩
      rw [← hx] at c0 c1 c2 c3
      simp only [stv] at c1 c2
      have hba : Below wr.heap.size wr ((wr.alloc (.cells #[.int .i64 x.k, .string ⟨⟨x.p⟩⟩, .string ⟨⟨x.t⟩⟩, .slice x.d.A x.d.l.length x.d.c] 35)).alloc (.cells #[.int .i64 1] 38)) := ((Below.refl _ _).alloc (Nat.le_refl _) _).alloc (by simp) _
      have HE6 : Hid (OwE _ w.heap.size Ae ce es) := Lib.hid (own_below hE hba)
      have ra : Hid (Rd ((wr.alloc (.cells #[.int .i64 x.k, .string ⟨⟨x.p⟩⟩, .string ⟨⟨x.t⟩⟩, .slice x.d.A x.d.l.length x.d.c] 35)).alloc (.cells #[.int .i64 1] 38)) (fun _ => True) 1 (some ⟨wr.heap.size + 1, 0, none⟩) 1 [.int .i64 1]) := Lib.hid (by
        have := (Rd.lit (w := wr.alloc (.cells #[.int .i64 x.k, .string ⟨⟨x.p⟩⟩, .string ⟨⟨x.t⟩⟩, .slice x.d.A x.d.l.length x.d.c] 35)) (t := 38) (size := 1) (n := 1) (xs := [.int .i64 1]) rfl rfl rfl).mono (Z' := fun _ => True) (fun _ _ _ => trivial)
        rwa [show (wr.alloc (.cells #[.int .i64 x.k, .string ⟨⟨x.p⟩⟩, .string ⟨⟨x.t⟩⟩, .slice x.d.A x.d.l.length x.d.c] 35)).heap.size = wr.heap.size + 1 by simp] at this)
      have hel : es.length = i := by rw [hes.out]; simp
      have hlb := Lib.hid (show es.length + 1 ≤ 1099511627776 by omega)
      have hbb2 := Lib.hid (hb.trans (hba.mono hb.size))
      have HES : Hid (es ++ [1] = List.replicate (i + 1) 1) := Lib.hid (by rw [hes.out, List.replicate_succ'])
      clear hx hE hba hes hel hb
      go_wp2_with (at_builtin; refine wpList_append_err rfl (.tmp 19) (.tmp 20) rfl rfl HE6.out rfl ra.out hlb.out hbb2.out.size ?_; intro A8 c8 w8 ho5 hb5 _)
      go_roundw
      case rel => exact ⟨i + 1, A8, c8, es ++ [1], hlt, by go_num, by simp, ho5, HES.out, hbb2.out.trans hb5⟩
      case measure => simp [intOf]; omega
    · have e : i = X.length := by omega
      subst e
      have hel : es.length = X.length := by rw [hes.out]; simp
      go_wp2_with fail
      go_ret
      rw [hes.out] at hE
      refine ⟨Ae, ce, by first | rfl | (rw [hel]; rfl), hE, hb⟩

end Go.Proofs.YtedbjkmgfcnkeaaGreat

/- tenderlaw10: lives. -/
namespace Go.Proofs.YtedbjkmgfcnkeaaGreat
open Go.RowKit Go.Maps

def exT : List (List UInt8 × LP) := [([97], (2, [])), ([97, 47, 98], (1, []))]
def exL : List (List UInt8 × LV) := [([97], ⟨2, ⟨none, 0, []⟩⟩), ([97, 47, 98], ⟨1, ⟨none, 0, []⟩⟩)]
theorem exNew : newS (plainL exL) = (exT, 0) := by decide
theorem exItems : itemsS exT 4 [97] [] [] = ([([97, 47, 98], (0, [])), ([97], (0, []))], 0) := by decide
theorem exItA (w : World) : ItA (w.alloc (.cells #[.string ⟨⟨[97]⟩⟩, .int .i64 2, .slice none 0 0, .string ⟨⟨[97, 47, 98]⟩⟩, .int .i64 1, .slice none 0 0] 51)) (some ⟨w.heap.size, 0, none⟩) exL := by
  refine ⟨(Rd.lit (w := w) (t := 51) (size := 3) (n := 2) (xs := exL.flatMap itemC) rfl rfl rfl).mono (fun b hb hz => ?_), ?_, by decide⟩
  · simpa using hb
  · intro x hx
    have hx' : x = ([97], ⟨2, ⟨none, 0, []⟩⟩) ∨ x = ([97, 47, 98], ⟨1, ⟨none, 0, []⟩⟩) := by simpa [exL] using hx
    rcases hx' with rfl | rfl
    all_goals exact ⟨⟨⟨Rd.nil, by simp, by simp [maxLen]⟩, by simp, by decide⟩, by simp⟩
set_option maxRecDepth 100000 in
set_option maxHeartbeats 1000000 in
theorem lives10_any (w : World) : Calls Tryz.prog 8 #[] w fun e w' => e = .returned (.bool true) ∧ Below w.heap.size w w' := by
  have hA := exItA w
  have hw0 : Below w.heap.size w (w.alloc (.cells #[.string ⟨⟨[97]⟩⟩, .int .i64 2, .slice none 0 0, .string ⟨⟨[97, 47, 98]⟩⟩, .int .i64 1, .slice none 0 0] 51)) := (by repeat (first | exact Below.refl _ _ | refine Below.alloc ?_ (by simp) _ | refine Below.setCell ?_ (by simp) _ | refine Below.drew ?_))
  have HN := Lib.hid (treeNew_any (some ⟨w.heap.size, 0, none⟩) 2 exL _ hA ⟨by decide, by decide⟩)
  rw [exNew] at HN
  clear hA
  go_enter Tryz.func8, Tryz.ntmps8
  go_wp2_with fail
  refine HN.out.mono ?_
  rintro e w1 (⟨h, _⟩ | ⟨_, tb, mo, L, rfl, hT, hL, hb1⟩)
  · exact absurd rfl h.out
  have hw1 := hw0.trans (hb1.mono hw0.size)
  have HT := Lib.hid hT
  have hll : (L.length : Int) = 2 := by rw [← plain_len, hL.out]; rfl
  have HI := Lib.hid (items_any tb mo L 4 [97] [] none 0 [] (fun _ => True) w1 hT (by decide) (by decide) Rd.nil (by decide))
  rw [hL.out, exItems] at HI
  clear hT hb1 HN hw0 hL
  go_wp2_with fail
  refine HI.out.mono ?_
  rintro e w2 ⟨A, c, M, rfl, hM, hO, hb2⟩
  have hw2 := hw1.trans (hb2.mono hw1.size)
  have hMl : M.length = 2 := by rw [← plain_len, hM.out]; rfl
  have hI : Its w2 A M := hO.itsS hM (by decide) (by decide)
  obtain ⟨x, y, rfl⟩ : ∃ x y, M = [x, y] := by
    match M, hMl with
    | [x, y], _ => exact ⟨_, _, rfl⟩
  obtain ⟨b, off, rfl, hbb, c0, c1, c2⟩ := hI.at_ (i := 0) (by simp)
  obtain ⟨b', off', e', _, d0, d1, d2⟩ := hI.at_ (i := 1) (by simp)
  obtain ⟨rfl, rfl⟩ : b = b' ∧ off = off' := by simpa using e'
  have hM' := hM.out
  simp only [plainL, List.map_cons, List.map_nil, List.cons.injEq, Prod.mk.injEq, LV.p] at hM'
  obtain ⟨⟨m1, m2, m3⟩, ⟨m4, m5, m6⟩, _⟩ := hM'
  simp only [List.getElem_cons_zero, List.getElem_cons_succ, stv, m1, m2, m4, Nat.zero_mul, Nat.one_mul, Nat.add_zero] at c0 c1 d0
  have HLN := Lib.hid (treeLen_any tb mo L w2 (HT.out.below hb2))
  rw [hll] at HLN
  clear c2 d1 d2 hI hM hO hb2 HI hll hMl m1 m2 m3 m4 m5 m6
  go_wp2_with fail
  refine HLN.out.mono ?_
  rintro e w3 ⟨rfl, rfl⟩
  go_wp2_with fail
  go_ret
  exact ⟨rfl, hw2⟩
end Go.Proofs.YtedbjkmgfcnkeaaGreat

/- tenderlaw10: EditApplies. -/
namespace Go.Proofs.YtedbjkmgfcnkeaaGreat
open Go.RowKit Go.Maps

theorem OwE.at_ {w : World} {base : Nat} {A : Option Addr} {c : Nat} {es : List Int} {i : Nat} (h : OwE w base A c es) (hi : i < es.length) : ∃ b off, A = some ⟨b, off, none⟩ ∧ b < w.heap.size ∧ w.cell? ⟨b, off + i, none⟩ = some (.int .i64 es[i]) := by
  have hr : Rd w (fun _ => True) 1 A es.length (es.map (Value.int .i64)) := Rd.of_own h (fun _ _ _ => trivial)
  obtain ⟨b, off, hA, _, hb, hc⟩ := hr.2 (by omega)
  exact ⟨b, off, hA, hb, hc i _ (by rw [List.getElem?_map, List.getElem?_eq_getElem hi]; rfl)⟩
theorem diff_same (T : List (List UInt8 × LP)) : diffS T T = [] := by
  unfold diffS diffB
  simp
theorem edz_one {w : World} {Z : Nat → Prop} {x : XV} (h : x.ok w Z) (hz : Z w.heap.size) : EdZ (w.alloc (.cells #[.int .i64 x.k, .string ⟨⟨x.p⟩⟩, .string ⟨⟨x.t⟩⟩, .slice x.d.A x.d.l.length x.d.c] 35)) Z (some ⟨w.heap.size, 0, none⟩) [x] := by
  refine ⟨?_, ?_, by simp⟩
  · have h1 := (Rd.lit (w := w) (t := 35) (size := 4) (n := 1) (xs := [x].flatMap XV.cells) rfl rfl rfl)
    refine ⟨h1.1, fun hn => ?_⟩
    obtain ⟨b, off, e, _, hlt, hc⟩ := h1.2 hn
    injection e with e
    injection e with e1 e2
    subst e1 e2
    exact ⟨_, _, rfl, hz, hlt, hc⟩
  · intro y hy
    rw [List.mem_singleton.1 hy]
    exact ⟨h.d.below ((Below.refl _ _).alloc (Nat.le_refl _) _), h.len, h.p, h.t⟩

set_option maxRecDepth 100000 in
set_option maxHeartbeats 4000000 in
theorem editApplies_any (A : Option Addr) (c : Nat) (l : List (List UInt8 × LV)) (Ax : Option Addr) (cx : Nat) (X : List XV) (w : World) (h : ItA w A l) (hX : EdA w Ax X) :
    Calls Tryz.prog 4 #[.slice A l.length c, .slice Ax X.length cx] w fun e w' => e = .returned (.bool true) ∧ Below w.heap.size w w' := by
  have HL := Lib.hid (lightI_any A c l w h)
  have HA := Lib.hid h
  have HX := Lib.hid hX
  have HLX := Lib.hid (fun W (hW : Below w.heap.size w W) => lightX_any Ax cx X W (hX.below hW))
  clear h hX
  rcases hli : lightI l with _ | _
  · rw [hli] at HL
    go_enter Tryz.func4, Tryz.ntmps4
    go_wp2_with fail
    refine HL.out.mono ?_
    rintro e w1 ⟨rfl, hw1⟩
    go_wp2_with fail
    refine (lives10_any _).mono ?_
    rintro e w9 ⟨rfl, hb9⟩
    go_wp2_with fail
    go_ret
    exact ⟨rfl, hw1.trans (hb9.mono hw1.size)⟩
  rw [hli] at HL
  have hll := lightI_len hli
  rcases hlx : lightX X with _ | _
  · rw [hlx] at HLX
    go_enter Tryz.func4, Tryz.ntmps4
    go_wp2_with fail
    refine HL.out.mono ?_
    rintro e w1 ⟨rfl, hw1⟩
    go_wp2_with fail
    refine (HLX.out _ hw1).mono ?_
    rintro e w2 ⟨rfl, hb2⟩
    have hw2 := hw1.trans (hb2.mono hw1.size)
    go_wp2_with fail
    refine (lives10_any _).mono ?_
    rintro e w9 ⟨rfl, hb9⟩
    go_wp2_with fail
    go_ret
    exact ⟨rfl, hw2.trans (hb9.mono hw2.size)⟩
  rw [hlx] at HLX
  have hxl := lightX_len hlx
  go_enter Tryz.func4, Tryz.ntmps4
  go_wp2_with fail
  refine HL.out.mono ?_
  rintro e w1 ⟨rfl, hw1⟩
  go_wp2_with fail
  refine (HLX.out _ hw1).mono ?_
  rintro e w2 ⟨rfl, hb2⟩
  have hw2 := hw1.trans (hb2.mono hw1.size)
  clear hb2 HLX HL
  go_wp2_with fail
  refine (plays08_any A c l w2 (HA.out.below hw2) hll).mono ?_
  rintro e w3 ⟨tb, mo, L, B, d, M, rfl, hP, htb, hmo, hb3⟩
  have hw3 := hw2.trans (hb3.mono hw2.size)
  have htb0 : w.heap.size ≤ tb := Nat.le_trans hw2.size htb
  have hmo0 : ∀ m, mo = some m → w.heap.size ≤ m := fun m e => Nat.le_trans hw2.size (hmo m e)
  have HP := Lib.hid hP
  have HOK : Hid (TreeOk (playS [] (plainL l))) := Lib.hid (by rw [← hP.plain.out]; exact hP.tree.plain)
  generalize playS [] (plainL l) = T0 at *
  clear hP hb3 hll hli hlx htb hmo HA hw2 hw1
  go_wp2_with fail
  go_loopw [6, 33] (fun rv iv wr => ∃ (i : Nat) (mi : Option Nat) (K : List (List UInt8 × LV)) (B2 : Option Addr) (d2 : Nat) (M2 : List (List UInt8 × LV)), i ≤ X.length ∧ iv = .int .i64 (i : Int) ∧ rv = .slice B2 M2.length d2 ∧ Played wr (applyS T0 (X.take i)).1 tb mi K B2 M2 ∧ (∀ m, mi = some m → w.heap.size ≤ m) ∧ Below w.heap.size w wr) (fun _ iv _ => X.length - (intOf iv).toNat)
  case atStart => exact ⟨0, mo, L, B, d, M, Nat.zero_le _, rfl, rfl, HP.out, hmo0, hw3⟩
  case round =>
    obtain ⟨i, mi, K, B2, d2, M2, hi, rfl, rfl, hPi, hmi, hb⟩ := hrel
    by_cases hlt : i < X.length
    · obtain ⟨b, off, hA, hbb, c0, c1, c2, c3⟩ := (HX.out.below hb).at_ hlt
      have hxo := (HX.out.ok _ (List.getElem_mem hlt))
      have hxs := hxl.2 _ (List.getElem_mem hlt)
      have hps := apply_take T0 X i hlt
      subst hA
      obtain ⟨x, hx⟩ : ∃ x, x = X[i] := ⟨_, rfl⟩
      rw [← hx] at c0 c1 c2 c3 hxo hxs hps
      simp only [stv] at c1 c2
      obtain ⟨T, hT⟩ : ∃ T, T = (applyS T0 (X.take i)).1 := ⟨_, rfl⟩
      rw [← hT] at hPi hps
      have HPS : Hid ((applyS T0 (X.take (i + 1))).1 = stepA T x) := Lib.hid (by rw [hps])
      have hokT : TreeOk T := by rw [← hPi.plain.out]; exact hPi.tree.plain
      have HOT := Lib.hid hokT
      have hba : Below wr.heap.size wr (wr.alloc (.cells #[.int .i64 x.k, .string ⟨⟨x.p⟩⟩, .string ⟨⟨x.t⟩⟩, .slice x.d.A x.d.l.length x.d.c] 35)) := (Below.refl _ _).alloc (Nat.le_refl _) _
      have xb := Blk.new wr 35 #[.int .i64 x.k, .string ⟨⟨x.p⟩⟩, .string ⟨⟨x.t⟩⟩, .slice x.d.A x.d.l.length x.d.c]
      have HP1 := Lib.hid (hPi.below hba)
      have hw1 := hb.trans (hba.mono hb.size)
      have HXO := Lib.hid hxo
      have hsz := hb.size
      have q0 := xb.cell 0
      have q1 := xb.cell 1
      have q2 := xb.cell 2
      have q3 := xb.cell 3
      simp only [List.getElem?_toArray, List.getElem?_cons_zero, List.getElem?_cons_succ] at q0 q1 q2 q3
      have HR := Lib.hid (refApply10_any B2 d2 M2 x (fun b => b < w.heap.size) _ HP1.out.its (by rw [HP1.out.same.out]; exact hokT) ⟨hxo.d.below hw1, hxo.len, hxo.p, hxo.t⟩ hxs)
      rw [HP1.out.same.out] at HR
      clear hx hxo hps hT hPi hokT hba hb HP hw3
      go_wp2_with fail
      refine HR.out.mono ?_
      rintro e w2 ⟨B3, d3, M3, rfl, hM3, hI3, hb2⟩
      have hw2 := hw1.trans (hb2.mono hw1.size)
      have HP2 := Lib.hid (HP1.out.below hb2)
      have HI3 := Lib.hid hI3
      have HM3 := Lib.hid hM3
      have xb2 := xb.below hb2
      clear HR HP1 hI3 hM3 hb2 xb q0 q1 q2 q3 c0 c1 c2 c3
      go_wp2_with fail
      refine (treeClone_any tb mi K w2 HP2.out.tree).mono ?_
      rintro e w3 ⟨cb, mc, rfl, hcb, hmc, hC, hb3⟩
      have hw3 := hw2.trans (hb3.mono hw2.size)
      have HP3 := Lib.hid (HP2.out.below hb3)
      have HI4 := Lib.hid (HI3.out.below hb3)
      have xb3 := xb2.below hb3
      have htl := HP2.out.tree.blk.lt
      have hml := HP2.out.tree.lt
      have htl3 := HP3.out.tree.blk.lt
      have hml3 := HP3.out.tree.lt
      have q0 := xb3.cell 0
      have q1 := xb3.cell 1
      have q2 := xb3.cell 2
      have q3 := xb3.cell 3
      simp only [List.getElem?_toArray, List.getElem?_cons_zero, List.getElem?_cons_succ] at q0 q1 q2 q3
      have hba : Below w3.heap.size w3 (w3.alloc (.cells #[.int .i64 x.k, .string ⟨⟨x.p⟩⟩, .string ⟨⟨x.t⟩⟩, .slice x.d.A x.d.l.length x.d.c] 35)) := (Below.refl _ _).alloc (Nat.le_refl _) _
      have hw3a := hw3.trans (hba.mono hw3.size)
      have HXZ := Lib.hid (edz_one (w := w3) (Z := fun b => ¬ (b = tb ∨ mi = some b)) (x := x) ⟨(HXO.out.d.below hw3).mono (fun b _ hz e => by
        rcases e with e | e
        · omega
        · have := hmi _ e; omega), HXO.out.len, HXO.out.p, HXO.out.t⟩ (fun e => by
        rcases e with e | e
        · omega
        · have := hml3 _ e; omega))
      have HP4 := Lib.hid (HP3.out.below hba)
      have HI5 := Lib.hid (HI4.out.below hba)
      have HC4 := Lib.hid ((hC).below hba)
      have HE := Lib.hid (editApply_any tb mi K _ 1 [x] _ _ HP4.out.tree HXZ.out (fun b _ h => h) ⟨by simp, fun y hy => by rw [List.mem_singleton.1 hy]; exact hxs⟩)
      rw [HP4.out.plain.out] at HE
      clear HP2 HP3 HI3 HI4 hb3 hba hC xb2 xb3
      go_wp2_with fail
      refine HE.out.mono ?_
      rintro e w4 ⟨Ae, ce, rfl, hE, ⟨⟨m5, K5, hT5, hL5, hm5⟩, hf5⟩⟩
      have hes : (applyS T [x]).2 = [errA T x] := rfl
      have hsta : (applyS T [x]).1 = stepA T x := rfl
      rw [hes] at hE
      rw [hsta] at hL5
      have hw4 : Below w.heap.size w w4 := hw3a.trans (hf5.below hw3a.size (fun g hg e => by
        rcases e with e | e
        · omega
        · have := hmi _ e; omega))
      have HI6 := Lib.hid (HI5.out.set HP4.out.tree hf5)
      have HC5 : Hid (TreeAt w4 cb mc K) := Lib.hid (HC4.out.fr hf5 (fun e => by
          rcases e with e | e
          · omega
          · have := hml _ e; omega) (fun m em e => by
          have := hmc m em
          rcases e with e | e
          · omega
          · have := hml _ e; omega) (fun y hy g hg => HP4.out.tree.ownT (HC4.out.own y hy) (by decide) g hg))
      have hmi5 : ∀ m, m5 = some m → w.heap.size ≤ m := fun m e => by
        rcases hm5 m e with e | e
        · exact hmi m e
        · have := hw3a.size; omega
      have HT5 := Lib.hid hT5
      obtain ⟨be, oe, hAe, hbe, ce0⟩ := hE.at_ (i := 0) (by simp)
      rw [show oe + 0 = oe from rfl, List.getElem_cons_zero] at ce0
      subst hAe
      have HPK : Hid (plainL K = T) := Lib.hid HP4.out.plain.out
      have HSE := fun (he : errA T x ≠ 0) => Lib.hid (stepA_err he)
      have HOS := Lib.hid (stepA_ok HOT.out x)
      have HL5 := Lib.hid hL5
      clear HE hE hT5 hL5 hm5 hf5 HI5 HP4 HXZ HC4 hes hsta q0 q1 q2 q3 hmc hcb htl hml htl3 hml3 hbe hw3a
      generalize stepA T x = T2 at *
      generalize errA T x = f at *
      have HIT := Lib.hid (treeItems_any sortsT tb m5 K5 w4 HT5.out)
      go_wp2_with fail
      refine HIT.out.mono ?_
      rintro e w5 ⟨A5, c5, M5, rfl, hM5, hO5, hb5⟩
      have hw5 := hw4.trans (hb5.mono hw4.size)
      have hM5' : Hid (plainL M5 = T2) := Lib.hid (hM5.out.trans HL5.out.out)
      have HI7 := Lib.hid (hO5.itsT hM5' HOS.out)
      have hsm := refSame08_any A5 B3 c5 d3 M5 M3 w5 HI7.out (HI6.out.below hb5)
      rw [hM5'.out, HM3.out.out, show decide (T2 = T2) = true by simp] at hsm
      have HSM := Lib.hid hsm
      have HC6 := Lib.hid (HC5.out.below hb5)
      have HT6 := Lib.hid (HT5.out.below hb5)
      have HI8 := Lib.hid (HI6.out.below hb5)
      clear hsm hM5 hO5 hb5 hM5' HIT HI7 HI6 HC5 HT5 ce0
      go_wp2_with fail
      refine HSM.out.mono ?_
      rintro e w6 ⟨rfl, hb6⟩
      have hw6 := hw5.trans (hb6.mono hw5.size)
      have HC7 := Lib.hid (HC6.out.below hb6)
      have HT7 := Lib.hid (HT6.out.below hb6)
      have HI9 := Lib.hid (HI8.out.below hb6)
      clear HSM HC6 HT6 HI8 hb6
      by_cases hf : f = 0
      · subst hf
        clear HC7 HSE
        go_wp2_with fail
        go_roundw
        case rel => exact ⟨i + 1, m5, K5, B3, d3, M3, hlt, by go_num, rfl, ⟨HT7.out, by rw [HPS.out]; exact HL5.out, HI9.out, by rw [HPS.out]; exact HM3.out⟩, hmi5, hw6⟩
        case measure => simp [intOf]; omega
      · have hfb : (f != 0) = true := by simpa using hf
        have hTT := (HSE hf).out
        have HS := Lib.hid (treeSame_any sortsT (some ⟨tb, 0, none⟩) (some ⟨cb, 0, none⟩) K5 K w6 (.inr ⟨tb, m5, rfl, HT7.out⟩) (.inr ⟨cb, mc, rfl, HC7.out⟩))
        rw [HL5.out.out, HPK.out, hTT, diff_same, show decide (([] : List (List UInt8)) = []) = true by simp] at HS
        clear hf HSE
        go_wp2_with fail
        refine HS.out.mono ?_
        rintro e w7 ⟨rfl, hb7⟩
        have hw7 := hw6.trans (hb7.mono hw6.size)
        go_wp2_with fail
        go_roundw
        case rel => exact ⟨i + 1, m5, K5, B3, d3, M3, hlt, by go_num, rfl, ⟨HT7.out.below hb7, by rw [HPS.out]; exact HL5.out, HI9.out.below hb7, by rw [HPS.out]; exact HM3.out⟩, hmi5, hw7⟩
        case measure => simp [intOf]; omega
    · have e : i = X.length := by omega
      subst e
      clear hPi hmi
      go_wp2_with fail
      refine (lives10_any _).mono ?_
      rintro e w9 ⟨rfl, hb9⟩
      go_wp2_with fail
      go_ret
      exact ⟨rfl, hb.trans (hb9.mono hb.size)⟩

end Go.Proofs.YtedbjkmgfcnkeaaGreat

/- tenderlaw10: EditAll. -/
namespace Go.Proofs.YtedbjkmgfcnkeaaGreat
open Go.RowKit Go.Maps

theorem apply_more (X : List XV) : ∀ R : List (List UInt8 × LP) × List Int, ∃ r, (X.foldl (fun R x => (stepA R.1 x, R.2 ++ [errA R.1 x])) R).2 = R.2 ++ r := by
  induction X with
  | nil => exact fun R => ⟨[], by simp⟩
  | cons x X ih =>
    intro R
    obtain ⟨r, h⟩ := ih (stepA R.1 x, R.2 ++ [errA R.1 x])
    exact ⟨[errA R.1 x] ++ r, by rw [List.foldl_cons, h]; simp⟩
theorem apply_err (T : List (List UInt8 × LP)) (X : List XV) (i : Nat) (hi : i < X.length) : (applyS T X).2[i]? = some (errA (applyS T (X.take i)).1 X[i]) := by
  have h1 : applyS T X = (X.drop (i + 1)).foldl (fun R x => (stepA R.1 x, R.2 ++ [errA R.1 x])) (applyS T (X.take (i + 1))) := by
    unfold applyS
    rw [← List.foldl_append, List.take_append_drop]
  obtain ⟨r, h2⟩ := apply_more (X.drop (i + 1)) (applyS T (X.take (i + 1)))
  rw [h1, h2, apply_take T X i hi]
  have hl := apply_len T (X.take i)
  rw [List.length_take] at hl
  have hl2 : (applyS T (X.take i)).2.length = i := by omega
  rw [List.getElem?_append_left (by simp; omega), List.getElem?_append_right (by omega), hl2]
  simp

set_option maxRecDepth 100000 in
set_option maxHeartbeats 4000000 in
theorem editAll_any (A : Option Addr) (c : Nat) (l : List (List UInt8 × LV)) (Ax : Option Addr) (cx : Nat) (X : List XV) (w : World) (h : ItA w A l) (hX : EdA w Ax X) :
    Calls Tryz.prog 3 #[.slice A l.length c, .slice Ax X.length cx] w fun e w' => e = .returned (.bool true) ∧ Below w.heap.size w w' := by
  have HL := Lib.hid (lightI_any A c l w h)
  have HA := Lib.hid h
  have HX := Lib.hid hX
  have HLX := Lib.hid (fun W (hW : Below w.heap.size w W) => lightX_any Ax cx X W (hX.below hW))
  clear h hX
  rcases hli : lightI l with _ | _
  · rw [hli] at HL
    go_enter Tryz.func3, Tryz.ntmps3
    go_wp2_with fail
    refine HL.out.mono ?_
    rintro e w1 ⟨rfl, hw1⟩
    go_wp2_with fail
    refine (lives10_any _).mono ?_
    rintro e w9 ⟨rfl, hb9⟩
    go_wp2_with fail
    go_ret
    exact ⟨rfl, hw1.trans (hb9.mono hw1.size)⟩
  rw [hli] at HL
  have hll := lightI_len hli
  rcases hlx : lightX X with _ | _
  · rw [hlx] at HLX
    go_enter Tryz.func3, Tryz.ntmps3
    go_wp2_with fail
    refine HL.out.mono ?_
    rintro e w1 ⟨rfl, hw1⟩
    go_wp2_with fail
    refine (HLX.out _ hw1).mono ?_
    rintro e w2 ⟨rfl, hb2⟩
    have hw2 := hw1.trans (hb2.mono hw1.size)
    go_wp2_with fail
    refine (lives10_any _).mono ?_
    rintro e w9 ⟨rfl, hb9⟩
    go_wp2_with fail
    go_ret
    exact ⟨rfl, hw2.trans (hb9.mono hw2.size)⟩
  rw [hlx] at HLX
  have hxl := lightX_len hlx
  go_enter Tryz.func3, Tryz.ntmps3
  go_wp2_with fail
  refine HL.out.mono ?_
  rintro e w1 ⟨rfl, hw1⟩
  go_wp2_with fail
  refine (HLX.out _ hw1).mono ?_
  rintro e w2 ⟨rfl, hb2⟩
  have hw2 := hw1.trans (hb2.mono hw1.size)
  clear hb2 HLX HL
  go_wp2_with fail
  refine (plays08_any A c l w2 (HA.out.below hw2) hll).mono ?_
  rintro e w3 ⟨tb, mo, L, B, d, M, rfl, hP, htb, hmo, hb3⟩
  have hw3 := hw2.trans (hb3.mono hw2.size)
  have htb0 : w.heap.size ≤ tb := Nat.le_trans hw2.size htb
  have hmo0 : ∀ m, mo = some m → w.heap.size ≤ m := fun m e => Nat.le_trans hw2.size (hmo m e)
  have HP := Lib.hid hP
  have HOK : Hid (TreeOk (playS [] (plainL l))) := Lib.hid (by rw [← hP.plain.out]; exact hP.tree.plain)
  generalize playS [] (plainL l) = T0 at *
  clear hP hb3 hll hli hlx htb hmo HA hw2 hw1
  have HXZ : Hid (EdZ w3 (fun b => b < w.heap.size) Ax X) := Lib.hid ((HX.out.z).fr (Fr.of_below hw3 (fun _ => False)) (fun _ _ _ e => e))
  have HE := Lib.hid (editApply_any tb mo L Ax cx X _ _ HP.out.tree HXZ.out (fun b _ h e => by
    rcases e with e | e
    · omega
    · have := hmo0 _ e; omega) hxl)
  rw [HP.out.plain.out] at HE
  go_wp2_with fail
  refine HE.out.mono ?_
  rintro e w4 ⟨Ae, ce, rfl, hE, ⟨⟨m5, K5, hT5, hL5, hm5⟩, hf5⟩⟩
  have hw4 : Below w.heap.size w w4 := hw3.trans (hf5.below hw3.size (fun g hg e => by
    rcases e with e | e
    · omega
    · have := hmo0 _ e; omega))
  have HI4 := Lib.hid (HP.out.its.set HP.out.tree hf5)
  have HMT : Hid (plainL M = T0) := Lib.hid HP.out.same.out
  have HT4 := Lib.hid hT5
  have HL5 := Lib.hid hL5
  have HEE := Lib.hid (own_base hE (base' := w.heap.size) (fun g hg => Nat.le_trans hw3.size (hE.lt g hg).1))
  have HX4 : Hid (EdZ w4 (fun b => b < w.heap.size) Ax X) := Lib.hid ((HX.out.z).fr (Fr.of_below hw4 (fun _ => False)) (fun _ _ _ e => e))
  have HE2 := Lib.hid (editApply_nil Ax cx X _ w4 HX4.out hxl.1)
  clear hE hT5 hL5 hm5 hf5 HE HXZ HP
  go_wp2_with fail
  refine HE2.out.mono ?_
  rintro e w5 ⟨An, cn, rfl, hN, hb5⟩
  have hw5 := hw4.trans (hb5.mono hw4.size)
  have HI5 := Lib.hid (HI4.out.below hb5)
  have HT5 := Lib.hid (HT4.out.below hb5)
  have HE5 : Hid (OwE w5 w.heap.size Ae ce (applyS T0 X).2) := Lib.hid (own_below HEE.out hb5)
  have HN5 : Hid (OwE w5 w.heap.size An cn (List.replicate X.length 1)) := Lib.hid (own_base hN (base' := w.heap.size) (fun g hg => Nat.le_trans hw4.size (hN.lt g hg).1))
  clear hN hb5 HE2 HI4 HT4 HEE HX4 hw4
  go_wp2_with fail
  go_loopw [6, 50] (fun rv iv wr => ∃ (i : Nat) (B2 : Option Addr) (d2 : Nat) (M2 : List (List UInt8 × LV)), i ≤ X.length ∧ iv = .int .i64 (i : Int) ∧ rv = .slice B2 M2.length d2 ∧ Its wr B2 M2 ∧ Hid (plainL M2 = (applyS T0 (X.take i)).1) ∧ TreeAt wr tb m5 K5 ∧ OwE wr w.heap.size Ae ce (applyS T0 X).2 ∧ OwE wr w.heap.size An cn (List.replicate X.length 1) ∧ Below w.heap.size w wr) (fun _ iv _ => X.length - (intOf iv).toNat)
  case atStart => exact ⟨0, B, d, M, Nat.zero_le _, rfl, rfl, HI5.out, HMT.out, HT5.out, HE5.out, HN5.out, hw5⟩
  case round =>
    obtain ⟨i, B2, d2, M2, hi, rfl, rfl, hI, hM2, hT, hE, hN, hb⟩ := hrel
    by_cases hlt : i < X.length
    · obtain ⟨b, off, hA, hbb, c0, c1, c2, c3⟩ := (HX.out.below hb).at_ hlt
      have hxo := (HX.out.ok _ (List.getElem_mem hlt))
      have hxs := hxl.2 _ (List.getElem_mem hlt)
      have hps := apply_take T0 X i hlt
      have hpe := apply_err T0 X i hlt
      subst hA
      obtain ⟨x, hx⟩ : ∃ x, x = X[i] := ⟨_, rfl⟩
      rw [← hx] at c0 c1 c2 c3 hxo hxs hps hpe
      simp only [stv] at c1 c2
      obtain ⟨T, hT'⟩ : ∃ T, T = (applyS T0 (X.take i)).1 := ⟨_, rfl⟩
      rw [← hT'] at hM2 hps hpe
      have HPS : Hid ((applyS T0 (X.take (i + 1))).1 = stepA T x) := Lib.hid (by rw [hps])
      have hokT : TreeOk T := by
        rw [hT']
        have : ∀ (X : List XV) (R : List (List UInt8 × LP) × List Int), TreeOk R.1 → TreeOk (X.foldl (fun R x => (stepA R.1 x, R.2 ++ [errA R.1 x])) R).1 := by
          intro X
          induction X with
          | nil => exact fun R h => h
          | cons y X ih => exact fun R h => ih _ (stepA_ok h y)
        exact this _ (T0, []) HOK.out
      have hba : Below wr.heap.size wr (wr.alloc (.cells #[.int .i64 x.k, .string ⟨⟨x.p⟩⟩, .string ⟨⟨x.t⟩⟩, .slice x.d.A x.d.l.length x.d.c] 35)) := (Below.refl _ _).alloc (Nat.le_refl _) _
      have xb := Blk.new wr 35 #[.int .i64 x.k, .string ⟨⟨x.p⟩⟩, .string ⟨⟨x.t⟩⟩, .slice x.d.A x.d.l.length x.d.c]
      have hw1 := hb.trans (hba.mono hb.size)
      have q0 := xb.cell 0
      have q1 := xb.cell 1
      have q2 := xb.cell 2
      have q3 := xb.cell 3
      simp only [List.getElem?_toArray, List.getElem?_cons_zero, List.getElem?_cons_succ] at q0 q1 q2 q3
      have HR := Lib.hid (refApply10_any B2 d2 M2 x (fun b => b < w.heap.size) _ (hI.below hba) (by rw [hM2.out]; exact hokT) ⟨hxo.d.below hw1, hxo.len, hxo.p, hxo.t⟩ hxs)
      rw [hM2.out] at HR
      have hE1 : Hid (OwE (wr.alloc (.cells #[.int .i64 x.k, .string ⟨⟨x.p⟩⟩, .string ⟨⟨x.t⟩⟩, .slice x.d.A x.d.l.length x.d.c] 35)) w.heap.size Ae ce (applyS T0 X).2) := Lib.hid (own_below hE hba)
      have hN1 : Hid (OwE (wr.alloc (.cells #[.int .i64 x.k, .string ⟨⟨x.p⟩⟩, .string ⟨⟨x.t⟩⟩, .slice x.d.A x.d.l.length x.d.c] 35)) w.heap.size An cn (List.replicate X.length 1)) := Lib.hid (own_below hN hba)
      have HT1 := Lib.hid (hT.below hba)
      have HPE := Lib.hid hpe
      have HEL := Lib.hid (apply_len T0 X)
      clear hx hxo hps hT' hM2 hokT hba hb hI hE hN hT hpe
      go_wp2_with fail
      refine HR.out.mono ?_
      rintro e w2 ⟨B3, d3, M3, rfl, hM3, hI3, hb2⟩
      have hw2 := hw1.trans (hb2.mono hw1.size)
      have HI3 := Lib.hid hI3
      have HM3 := Lib.hid hM3
      have HE2 : Hid (OwE w2 w.heap.size Ae ce (applyS T0 X).2) := Lib.hid (own_below hE1.out hb2)
      have HN2 : Hid (OwE w2 w.heap.size An cn (List.replicate X.length 1)) := Lib.hid (own_below hN1.out hb2)
      have HT2 := Lib.hid (HT1.out.below hb2)
      obtain ⟨be, oe, hAe, hbe, ce0⟩ := HE2.out.at_ (i := i) (by rw [HEL.out]; exact hlt)
      obtain ⟨bn, on, hAn, hbn, cn0⟩ := HN2.out.at_ (i := i) (by simpa using hlt)
      have hei : (applyS T0 X).2[i]'(by rw [HEL.out]; exact hlt) = errA T x := by
        have := HPE.out
        rw [List.getElem?_eq_getElem (by rw [HEL.out]; exact hlt)] at this
        injection this
      rw [hei] at ce0
      rw [List.getElem_replicate] at cn0
      subst hAe hAn
      have HLE := HEL
      clear HR hI3 hM3 hb2 xb q0 q1 q2 q3 c0 c1 c2 c3 hE1 hN1 HT1 hei HPE hw1
      generalize errA T x = f at *
      go_wp2_with fail
      go_roundw
      case rel => exact ⟨i + 1, B3, d3, M3, hlt, by go_num, rfl, HI3.out, by rw [HPS.out]; exact HM3.out, HT2.out, HE2.out, HN2.out, hw2⟩
      case measure => simp [intOf]; omega
    · have e : i = X.length := by omega
      subst e
      rw [List.take_length] at hM2
      have HM2 := Lib.hid hM2
      have HI := Lib.hid hI
      have HTT := Lib.hid hT
      clear hE hN hM2 hI hT
      go_wp2_with fail
      refine (treeItems_any sortsT tb m5 K5 wr HTT.out).mono ?_
      rintro e w6 ⟨A6, c6, M6, rfl, hM6, hO6, hb6⟩
      have hw6 := hb.trans (hb6.mono hb.size)
      have hM6' : Hid (plainL M6 = (applyS T0 X).1) := Lib.hid (hM6.out.trans HL5.out.out)
      have hok6 : TreeOk (plainL K5) := HTT.out.plain
      have HI7 := Lib.hid (hO6.itsT hM6 hok6)
      have hsm := refSame08_any A6 B2 c6 d2 M6 M2 w6 HI7.out (HI.out.below hb6)
      rw [hM6'.out, HM2.out.out, show ∀ z : List (List UInt8 × LP), decide (z = z) = true from fun z => by simp] at hsm
      have HSM := Lib.hid hsm
      clear hsm hM6 hO6 hb6 hM6' hok6 HI HM2 HTT
      go_wp2_with fail
      refine HSM.out.mono ?_
      rintro e w7 ⟨rfl, hb7⟩
      have hw7 := hw6.trans (hb7.mono hw6.size)
      go_wp2_with fail
      refine (lives10_any _).mono ?_
      rintro e w9 ⟨rfl, hb9⟩
      go_wp2_with fail
      go_ret
      exact ⟨rfl, hw7.trans (hb9.mono hw7.size)⟩

end Go.Proofs.YtedbjkmgfcnkeaaGreat
