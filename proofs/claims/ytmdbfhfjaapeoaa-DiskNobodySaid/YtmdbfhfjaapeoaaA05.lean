/- disk.Disk: Crash. -/
import Derived.Test.YtmdbfhfjaapeoaaA04
import Derived.IntWalk

namespace Go.Proofs.Ytmdbfhfjaapeoaa
open Go.RowKit Go.Maps

def keepC (x : Int × Int) : List Value := [.int .i64 x.1, .int .i64 x.2]
theorem keepC_len (x : Int × Int) : (keepC x).length = 2 := rfl
/-- what may be kept, as it comes in -/
structure Kps (w : World) (Z : Nat → Prop) (A : Option Addr) (K : List (Int × Int)) : Prop where
  rd : Rd w Z 2 A K.length (K.flatMap keepC)
  len : K.length ≤ 1000000
theorem Kps.fr {w w' : World} {Z S : Nat → Prop} {A : Option Addr} {K : List (Int × Int)} (h : Kps w Z A K) (k : Fr S w w') (hs : ∀ b, b < w.heap.size → Z b → ¬ S b) : Kps w' Z A K := ⟨h.rd.fr k hs, h.len⟩
theorem Kps.below {w w' : World} {Z : Nat → Prop} {A : Option Addr} {K : List (Int × Int)} (h : Kps w Z A K) (k : Below w.heap.size w w') : Kps w' Z A K := ⟨h.rd.below k, h.len⟩
theorem Kps.at_ {w : World} {Z : Nat → Prop} {A : Option Addr} {K : List (Int × Int)} {i : Nat} (h : Kps w Z A K) (hi : i < K.length) :
    ∃ b off, A = some ⟨b, off, none⟩ ∧ b < w.heap.size ∧ w.cell? ⟨b, off + i * 2, none⟩ = some (.int .i64 K[i].1) ∧ w.cell? ⟨b, off + i * 2 + 1, none⟩ = some (.int .i64 K[i].2) := by
  obtain ⟨b, off, hA, _, hb, hc⟩ := h.rd.2 (by omega)
  have hg : ∀ j, j < 2 → (K.flatMap keepC)[i * 2 + j]? = (keepC K[i])[j]? := fun j hj => flat_get (k := 2) keepC_len K i j hi hj
  refine ⟨b, off, hA, hb, hc _ _ (hg 0 (by omega)), ?_⟩
  rw [Nat.add_assoc]; exact hc _ _ (hg 1 (by omega))
theorem getZ_consK {α : Type} (x : Int × α) (l : List (Int × α)) (n : Int) : getZ (x :: l) n = if x.1 = n then some x.2 else getZ l n := rfl
set_option maxRecDepth 100000 in
set_option maxHeartbeats 400000 in
theorem crash1_any (f y n : Int) (b : Nat) (w : World) (hn : w.cell? ⟨b, 0, none⟩ = some (.int .i64 n)) (hb : b < w.heap.size) :
    Calls Try.prog 38 #[.agg #[.int .i64 f, .int .i64 y], .pointer (some ⟨b, 0, none⟩)] w fun e w' => e = .returned (.bool (f == n)) ∧ Below w.heap.size w w' := by
  have hw0 : Below w.heap.size w (w.alloc (.cells #[.int .i64 f, .int .i64 y] 61)) := (by repeat (first | exact Below.refl _ _ | refine Below.alloc ?_ (by simp) _ | refine Below.setCell ?_ (by simp) _ | refine Below.drew ?_))
  have x0 := Blk.new w 61 #[.int .i64 f, .int .i64 y]
  have q0 := x0.cell 0
  have c0 := cellAt hw0 hb hn
  simp only [List.getElem?_toArray, List.getElem?_cons_zero] at q0
  go_enter Try.func38, Try.ntmps38
  go_wp2_with fail
  go_ret
  exact ⟨rfl, hw0⟩
set_option maxRecDepth 100000 in
set_option maxHeartbeats 1000000 in
theorem index_any (A : Option Addr) (c : Nat) (K : List (Int × Int)) (n : Int) (b : Nat) (Z : Nat → Prop) (w : World) (h : Kps w Z A K) (hn : w.cell? ⟨b, 0, none⟩ = some (.int .i64 n)) (hb : b < w.heap.size) :
    Calls Try.prog 37 #[.slice A K.length c, .func (.func 38) #[] #[.pointer (some ⟨b, 0, none⟩)]] w fun e w' => (∃ p : Int, e = .returned (.int .i64 p) ∧ Hid ((p = -1 ∧ getZ K n = none) ∨ ∃ (i : Nat) (hi : i < K.length), p = (i : Int) ∧ getZ K n = some K[i].2)) ∧ Below w.heap.size w w' := by
  have HF := Lib.hid h
  have HN := Lib.hid hn
  clear h hn
  go_enter Try.func37, Try.ntmps37
  go_wp2_with fail
  go_loopw [8] (fun iv wr => ∃ (i : Nat), i ≤ K.length ∧ iv = .int .i64 (i : Int) ∧ Hid (getZ K n = getZ (K.drop i) n) ∧ Below w.heap.size w wr) (fun iv _ => K.length - (intOf iv).toNat)
  case atStart => exact ⟨0, Nat.zero_le _, rfl, rfl, Below.refl _ _⟩
  case round =>
    obtain ⟨i, hi, rfl, hg, hbr⟩ := hrel
    by_cases hlt : i < K.length
    · obtain ⟨b', off, hA, hbb, c0, c1⟩ := (HF.out.below hbr).at_ hlt
      have hlen := HF.out.len
      have hd : K.drop i = K[i] :: K.drop (i + 1) := List.drop_eq_getElem_cons hlt
      have hg2 := hg.out
      rw [hd, getZ_consK] at hg2
      have hnr := cellAt hbr hb HN.out
      have hbl : b < wr.heap.size := Nat.lt_of_lt_of_le hb hbr.size
      subst hA
      have HG2 := Lib.hid hg2
      generalize hx : K[i] = x at *
      obtain ⟨xf, xb⟩ := x
      dsimp only at c0 c1
      have HC := Lib.hid (crash1_any xf xb n b wr hnr hbl)
      have HX := Lib.hid hx
      clear hd hg2 hg hx
      go_wp2_with fail
      refine HC.out.mono ?_
      rintro e w2 ⟨rfl, hb2⟩
      have hw2 := hbr.trans (hb2.mono hbr.size)
      by_cases he : xf = n
      · have heb : (xf == n) = true := by simpa using he
        have hg3 := HG2.out
        rw [if_pos he] at hg3
        have HR : Hid (getZ K n = some K[i].2) := Lib.hid (by rw [hg3, HX.out])
        clear HC HG2 hg3 c0 c1 hb2
        go_wp2_with fail
        go_ret
        exact ⟨⟨_, rfl, Lib.hid (.inr ⟨i, hlt, rfl, HR.out⟩)⟩, hw2⟩
      · have heb : (xf == n) = false := by simpa using he
        have hg3 := HG2.out
        rw [if_neg he] at hg3
        have HG3 := Lib.hid hg3
        clear HC HG2 hg3 c0 c1 hb2 he
        go_wp2_with fail
        go_roundw
        case rel => exact ⟨i + 1, hlt, by go_num, HG3.out, hw2⟩
        case measure => simp [intOf]; omega
    · have e : i = K.length := by omega
      subst e
      have hn2 : getZ K n = none := by rw [hg.out, List.drop_length]; rfl
      have HN2 := Lib.hid hn2
      clear hn2 hg
      go_wp2_with fail
      go_ret
      exact ⟨⟨_, rfl, Lib.hid (.inl ⟨rfl, HN2.out⟩)⟩, hbr⟩

theorem DiskAt.ownD {w : World} {tb mb : Nat} {L : List (Int × FV)} {D : DP} (t : DiskAt w tb mb L D) {base n size : Nat} {e : TypeId} {v : Value} {xs : List Value} (h : w.ownsRow base e size v n xs) (he : e ≠ 52) : ∀ g, v.ownBlock = some g → ¬ (g = tb ∨ g = mb) := by
  rintro g hg (rfl | rfl)
  · exact t.blk.own_ne h he hg
  · rcases h.2 with ⟨rfl, _⟩ | ⟨g', cap, cur, rfl, _, hh, _⟩
    · simp [Value.ownBlock] at hg
    · have e1 : g' = g := by simpa [Value.ownBlock] using hg
      subst e1
      exact t.map.not_cells hh
/-- a file behind a crash -/
def cutF (m : Nat) (f : FV) : FV := ⟨⟨f.x.A, m, f.x.l.take m⟩, (m : Int)⟩
theorem cut_ok {w : World} {f : FV} {m : Nat} (h : f.x.ok w (fun _ => True)) (hm : m ≤ f.x.l.length) : (cutF m f).x.ok w (fun _ => True) := by
  refine ⟨⟨by simp [cutF], fun hn => ?_⟩, by simp [cutF]; omega, ?_⟩
  · obtain ⟨b, off, e, hz, hlt, hc⟩ := h.1.2 (by simp [cutF] at hn; omega)
    refine ⟨b, off, e, hz, hlt, fun j u hu => hc j u ?_⟩
    simp only [cutF, List.map_take] at hu
    rw [List.getElem?_take] at hu
    split at hu
    · exact hu
    · cases hu
  · have h1 := h.2.1
    have h2 := h.2.2
    show m ≤ maxLen
    omega
theorem slice_cut (A : Option Addr) (n c m : Nat) (hm : m ≤ c) (W : World) : (Instr.slice 23 (.slice A n c) none (some (.int .i64 (m : Int))) (some (.int .i64 (m : Int)))).run Try.prog W = .ok (.slice A m m) W := by
  rw [run_slice_hm W 23 A n c (by kernel_rfl) .i64 .i64 (m : Int) (m : Int) (by omega) (by omega) (by omega)]
  rw [show (sizeOf (Try.prog.elem 23)).run Try.prog W = .ok 1 W by kernel_rfl]
  simp only [Result.andThen, sliced, Int.toNat_natCast]
  rcases A with _ | a
  · simp
  · simp [Addr.add]
/-- some files are as behind the crash, the rest as they were -/
def midD (D : DP) (K : List (Int × Int)) (i : Nat) : DP := ⟨(D.L.take i).map (crashF K) ++ D.L.drop i, D.last, D.room, -1⟩
theorem mid_zero (D : DP) (K : List (Int × Int)) : midD D K 0 = ⟨D.L, D.last, D.room, -1⟩ := by simp [midD]
theorem mid_end (D : DP) (K : List (Int × Int)) : midD D K D.L.length = crashS D K := by simp [midD, crashS]
theorem mid_keys (D : DP) (K : List (Int × Int)) (i : Nat) : keysZ (midD D K i).L = keysZ D.L := by
  show keysZ ((D.L.take i).map (crashF K) ++ D.L.drop i) = _
  have : ∀ (a b : List (Int × FP)), keysZ (a ++ b) = keysZ a ++ keysZ b := fun a b => by simp [keysZ]
  rw [this, crash_keys, ← this, List.take_append_drop]
theorem mid_get (D : DP) (K : List (Int × Int)) (i : Nat) (hi : i < D.L.length) : (midD D K i).L[i]? = some D.L[i] := by
  show ((D.L.take i).map (crashF K) ++ D.L.drop i)[i]? = _
  rw [List.getElem?_append_right (by simp; omega)]
  simp [hi, Nat.min_eq_left (Nat.le_of_lt hi)]
theorem mid_set (D : DP) (K : List (Int × Int)) (i : Nat) (hi : i < D.L.length) : (midD D K i).L.set i (crashF K D.L[i]) = (midD D K (i + 1)).L := by
  show ((D.L.take i).map (crashF K) ++ D.L.drop i).set i _ = (D.L.take (i + 1)).map (crashF K) ++ D.L.drop (i + 1)
  rw [List.take_succ_eq_append_getElem hi, List.map_append, List.append_assoc, List.set_append_right _ _ (by simp; omega)]
  have e : i - ((D.L.take i).map (crashF K)).length = 0 := by simp; omega
  rw [e]
  conv => lhs; rw [List.drop_eq_getElem_cons hi, List.set_cons_zero]
  rfl

set_option maxRecDepth 100000 in
set_option maxHeartbeats 4000000 in
theorem crash_any (tb mb : Nat) (L : List (Int × FV)) (D : DP) (k : Nat) (A : Option Addr) (c : Nat) (K : List (Int × Int)) (Z : Nat → Prop) (w : World) (h : DiskAt w tb mb L D) (hok : DOk D k) (hk : k ≤ 1000000) (hK : Kps w Z A K) (hZ : ∀ b, b < w.heap.size → Z b → ¬ (b = tb ∨ b = mb)) :
    Calls Try.prog 14 #[.pointer (some ⟨tb, 0, none⟩), .slice A K.length c] w fun e w' => e = .returned (.tuple #[]) ∧ DiskTo w tb mb (crashS D K) w' := by
  have HNO := Lib.hid (none_any tb mb L D w h)
  have hll' : L.length = D.L.length := by rw [← h.plain.out, plainD_len]
  have HLL := Lib.hid hll'
  have hlen : L.length ≤ 1000000 := by have := hok.len; omega
  clear hll'
  have f3 := h.blk.frozen 3
  obtain ⟨_, _, _, c3⟩ := h.cells
  have k1 : Fr (fun x => x = tb) w (w.setCell ⟨tb, 3, none⟩ (.int .i64 (-1))) := (Fr.refl (fun x => x = tb) w).setAt tb 3 rfl _
  have h1 : DiskAt (w.setCell ⟨tb, 3, none⟩ (.int .i64 (-1))) tb mb L ⟨D.L, D.last, D.room, -1⟩ := h.set k1 (by simpa using h.blk.set_ 3 (.int .i64 (-1))) rfl
  have HFI := Lib.hid (files_any tb mb L _ _ h1 hlen)
  have H1 := Lib.hid h1
  have HO := Lib.hid hok
  have HK := Lib.hid hK
  have HZ := Lib.hid hZ
  have K1 := Lib.hid (k1.mono (S' := fun g => g = tb ∨ g = mb) (fun _ _ e => .inl e))
  have hs1 : (w.setCell ⟨tb, 3, none⟩ (.int .i64 (-1))).heap.size = w.heap.size := by simp [World.setCell]
  have HKL : Hid (keysZ L = keysZ D.L) := Lib.hid (by rw [← h.plain.out, keys_plainD])
  have HWA : Hid (∀ x ∈ D.L, (Lit.int .i64 x.1).wf = true) := Lib.hid (fun x hx => by
    have h2 := HO.out.key x.1 (List.mem_map.2 ⟨x, hx, rfl⟩)
    have h3 := HO.out.last
    exact i64_wf ⟨by omega, by omega⟩)
  clear h h1 k1 hok hK hZ
  go_enter Try.func14, Try.ntmps14
  go_wp2_with fail
  refine HNO.out.mono ?_
  rintro e w0 ⟨rfl, rfl⟩
  go_wp2_with fail
  refine HFI.out.mono ?_
  rintro e w2 ⟨A2, c2, rfl, hr2, hb2⟩
  rw [hs1] at hr2
  have HR2 := Lib.hid hr2
  have HM2 : Hid (DiskAt w2 tb mb L (midD D K 0)) := Lib.hid (by rw [mid_zero]; exact H1.out.below hb2)
  have K2 := Lib.hid (K1.out.then_below hb2)
  clear hr2 hb2 HFI HNO f3 c3 H1 K1 hs1
  go_wp2_with fail
  go_loopw [17] (fun iv wr => ∃ (i : Nat) (M : List (Int × FV)), i ≤ L.length ∧ iv = .int .i64 (i : Int) ∧ DiskAt wr tb mb M (midD D K i) ∧ wr.ownsRow w.heap.size 3 1 (.slice A2 L.length c2) L.length ((keysZ L).map (Value.int .i64)) ∧ Fr (fun g => g = tb ∨ g = mb) w wr) (fun iv _ => L.length - (intOf iv).toNat)
  case atStart => exact ⟨0, L, Nat.zero_le _, rfl, HM2.out, HR2.out, K2.out⟩
  case round =>
    obtain ⟨i, M, hi, rfl, hM, hr, hf⟩ := hrel
    by_cases hlt : i < L.length
    · have hiD : i < D.L.length := by rw [← HLL.out]; exact hlt
      have hkl : (keysZ L).length = L.length := keysZ_len L
      rw [← hkl] at hr
      obtain ⟨b, off, hA, hbb, c0⟩ := int_at hr (i := i) (by omega)
      rw [hkl] at hr
      have hki : (keysZ L)[i]'(by omega) = D.L[i].1 := by
        have : (keysZ L)[i]? = some D.L[i].1 := by rw [HKL.out]; simp [keysZ, hiD]
        rw [List.getElem?_eq_getElem (by omega)] at this
        injection this
      rw [hki] at c0
      have hMl : M.length = D.L.length := by
        rw [← plainD_len, hM.plain.out, ← keysZ_len, mid_keys, keysZ_len]
      have hll := HLL.out
      have HML : Hid (M.length ≤ 1000000) := Lib.hid (by omega)
      have hMi : M[i]'(by omega) = M[i]'(by omega) := rfl
      have hpi : ((M[i]'(by omega)).1, (M[i]'(by omega)).2.p) = D.L[i] := by
        have h5 : (plainD M)[i]? = some D.L[i] := by rw [hM.plain.out]; exact mid_get D K i hiD
        simp only [plainD, List.getElem?_map, List.getElem?_eq_getElem (show i < M.length by omega), Option.map_some] at h5
        injection h5
      obtain ⟨n, hn⟩ : ∃ n, n = D.L[i].1 := ⟨_, rfl⟩
      have hMs : SortZ M := by
        have := HO.out.sort
        unfold SortZ at this ⊢
        rw [← keys_plainD, hM.plain.out, mid_keys]
        exact this
      have hMn : (M[i]'(by omega)).1 = n := by rw [hn, ← hpi]
      have hg : getZ M n = some (M[i]'(by omega)).2 := by rw [← hMn]; exact hMs.get (List.getElem_mem (show i < M.length by omega))
      have hbd := many_bd HO.out K (List.getElem_mem hiD)
      have hst := mid_set D K i hiD
      have hok5 := hM.ok _ (List.getElem_mem (show i < M.length by omega))
      have hsp := putZ_set hMs (show i < M.length by omega)
      obtain ⟨f, hf5⟩ : ∃ f, f = (M[i]'(by omega)).2 := ⟨_, rfl⟩
      rw [← hn] at c0
      have hfp : D.L[i].2 = f.p := by rw [← hpi, hf5]
      rw [hMn] at hsp
      rw [← hf5] at hg hok5
      have hDi : D.L[i] = (n, f.p) := by rw [hn, ← hfp]
      rw [hDi] at hbd hst
      have HG := Lib.hid hg
      have HWF : Hid ((Lit.int .i64 n).wf = true) := Lib.hid (by rw [hn]; exact HWA.out _ (List.getElem_mem hiD))
      have HST := Lib.hid hst
      have HSP := Lib.hid hsp
      have HBD := Lib.hid hbd
      subst hA
      have hba : Below wr.heap.size wr (wr.alloc (.cells #[.int .i64 n] 3)) := (Below.refl _ _).alloc (Nat.le_refl _) _
      have nb := Blk.new wr 3 #[.int .i64 n]
      have H4 := Lib.hid (hM.below hba)
      have OK4 := Lib.hid (BV.ok.below hok5 hba)
      have K4 := Lib.hid (hf.then_below hba)
      have R4 := Lib.hid (own_below hr hba)
      have b4 := H4.out.blk
      have hsz := hf.size
      clear hM hr hf hki hpi hMn hg hbd hst hsp hf5 hfp hDi hMs hba hMi hn hok5 hll hMl
      go_wp2_with fail
      generalize wr.alloc (.cells #[.int .i64 n] 3) = w4 at *
      refine wp_region_f 6 65 #[.slice none 0 0, .int .i64 0] (by kernel_rfl) rfl (by kernel_rfl) (fun ρ w' => by go_simp) ?_
      simp only [List.take_succ_cons, List.take_zero, List.drop_succ_cons, List.drop_zero]
      refine lb_move _ (by kernel_rfl) rfl ⟨_, (by ((try simp [go_sem]); (try rfl); done)), _, (by (simp only [Act.put, List.setIfInBounds_toArray, List.set_cons_zero, List.set_cons_succ]; rfl)), ?_⟩
      refine lb_val (by kernel_rfl) ⟨_, (by (intro w' hC; clear hC; (try go_simp); (try with_reducible rfl); done)), _, (by (simp only [Act.put, List.setIfInBounds_toArray, List.set_cons_zero, List.set_cons_succ]; rfl)), ?_⟩
      refine lb_val (by kernel_rfl) ⟨_, (by (intro w' hC; clear hC; (try go_simp); (try with_reducible rfl); done)), _, (by (simp only [Act.put, List.setIfInBounds_toArray, List.set_cons_zero, List.set_cons_succ]; rfl)), ?_⟩
      refine lb_val (by kernel_rfl) ⟨_, (by (intro w' hC; (have q0 := (b4.below hC).cell 0; simp only [List.getElem?_toArray, List.getElem?_cons_zero] at q0); clear hC; (try go_simp); (try with_reducible rfl); done)), _, (by (simp only [Act.put, List.setIfInBounds_toArray, List.set_cons_zero, List.set_cons_succ]; rfl)), ?_⟩
      refine lb_val (by kernel_rfl) ⟨_, (by (intro w' hC; (have n0 := (nb.below hC).cell 0; simp only [List.getElem?_toArray, List.getElem?_cons_zero] at n0); clear hC; (try go_simp); (try with_reducible rfl); done)), _, (by (simp only [Act.put, List.setIfInBounds_toArray, List.set_cons_zero, List.set_cons_succ]; rfl)), ?_⟩
      refine lb_val (by kernel_rfl) ⟨_, (by (intro w' hC; (have lk := (H4.out.below hC).look n HWF.out; rw [HG.out] at lk; simp only [fileO, FV.v] at lk); clear hC; (try go_simp); (try with_reducible rfl); done)), _, (by (simp only [Act.put, List.setIfInBounds_toArray, List.set_cons_zero, List.set_cons_succ]; rfl)), ?_⟩
      refine .nil ?_
      simp only [Act.put, List.setIfInBounds_toArray, List.set_cons_zero, List.set_cons_succ]
      rintro b5 w5 ⟨hb5, hge, hbl⟩
      have e0 := hbl.cell 0
      have e1 := hbl.cell 1
      simp only [List.getElem?_toArray, List.getElem?_cons_zero, List.getElem?_cons_succ] at e0 e1
      have f0 := hbl.frozen 0
      have f1 := hbl.frozen 1
      have k6 : Fr (fun x => x = b5) w5 ((w5.setCell ⟨b5, 0, none⟩ (.slice f.x.A f.x.l.length f.x.c)).setCell ⟨b5, 1, none⟩ (.int .i64 f.s)) := ((Fr.refl (fun x => x = b5) w5).setAt b5 0 rfl _).setAt b5 1 rfl _
      have fb := (hbl.set_ 0 (.slice f.x.A f.x.l.length f.x.c)).set_ 1 (.int .i64 f.s)
      simp only [List.setIfInBounds_toArray, List.set_cons_zero, List.set_cons_succ] at fb
      have h5 := H4.out.below hb5
      have htl := H4.out.blk.lt
      have hml := H4.out.map.lt
      have hnl := nb.lt
      have H6 := Lib.hid (h5.fr k6 (fun e => by omega) (fun e => by omega) (fun x hx => hbl.noBytes2 (file_noB _ _ _ _) (h5.ok x hx).1))
      have nb6 := (nb.below hb5).fr k6 (fun e => by omega)
      have ok5 := OK4.out.below hb5
      have OK6 : Hid (f.x.ok ((w5.setCell ⟨b5, 0, none⟩ (.slice f.x.A f.x.l.length f.x.c)).setCell ⟨b5, 1, none⟩ (.int .i64 f.s)) (fun _ => True)) := Lib.hid ⟨((hbl.noBytes2 (file_noB _ _ _ _) ok5.1).fr k6 (fun _ _ hz => hz)).mono (fun _ _ _ => trivial), ok5.2⟩
      have K6 : Hid (Fr (fun g => g = tb ∨ g = mb) w ((w5.setCell ⟨b5, 0, none⟩ (.slice f.x.A f.x.l.length f.x.c)).setCell ⟨b5, 1, none⟩ (.int .i64 f.s))) := Lib.hid ((K4.out.then_below hb5).trans k6 (fun x hx e => by have := K4.out.size; omega))
      have r5 := own_below R4.out hb5
      have R6 := Lib.hid (own_fr r5 k6 (fun g hg e => hbl.own_ne r5 (by decide) (by rw [hg, e])))
      have HK6 := Lib.hid (HK.out.fr K6.out HZ.out)
      have hmf : ∀ (fn : Fn) (first cap : Array Value) (W : World), (Instr.makeFunc fn first cap).run Try.prog W = .ok (.func fn first cap) W := fun _ _ _ _ => rfl
      have n0 := nb6.cell 0
      have p1 := fb.cell 1
      simp only [List.getElem?_toArray, List.getElem?_cons_zero, List.getElem?_cons_succ] at n0 p1
      have hn6 := nb6.lt
      clear h5 ok5 r5 nb H4 OK4 K4 R4 b4 hbl k6 hb5 c0
      go_upto_region 6 with (fail)
      generalize ((w5.setCell ⟨b5, 0, none⟩ (.slice f.x.A f.x.l.length f.x.c)).setCell ⟨b5, 1, none⟩ (.int .i64 f.s)) = w6 at *
      clear e0 e1 f0 f1
      have HIX := Lib.hid (index_any A c K n wr.heap.size Z w6 HK6.out n0 hn6)
      go_wp2_with fail
      refine HIX.out.mono ?_
      rintro e w7 ⟨⟨p, rfl, hp⟩, hb7⟩
      have H7 := Lib.hid (H6.out.below hb7)
      have nb7 := nb6.below hb7
      have fb7 := fb.below hb7
      have OK7 := Lib.hid (OK6.out.below hb7)
      have K7 := Lib.hid (K6.out.then_below hb7)
      have R7 := Lib.hid (own_below R6.out hb7)
      have HK7 := Lib.hid (HK6.out.below hb7)
      have b7 := H7.out.blk
      have hwn : (1 : Nat) = 1 := rfl
      clear H6 nb6 fb OK6 K6 R6 HK6 hb7 HIX n0 p1 hn6
      obtain ⟨mn, hmn⟩ : ∃ mn : Nat, manyS K n f.p = (mn : Int) := ⟨(manyS K n f.p).toNat, by have := HBD.out.1; omega⟩
      have hmle : mn ≤ f.x.l.length := by have := HBD.out.2.2; rw [hmn] at this; have h9 : f.p.1.length = f.x.l.length := rfl; omega
      have HMN := Lib.hid hmn
      have hcrash : crashF K (n, f.p) = (n, (cutF mn f).p) := by
        unfold crashF
        dsimp only
        rw [hmn]
        simp [cutF, FV.p]
      have HCR := Lib.hid hcrash
      rcases hp.out with ⟨rfl, hgk⟩ | ⟨j, hj, rfl, hgk⟩
      · have hms : f.s = (mn : Int) := by rw [← hmn]; unfold manyS; rw [hgk]; rfl
        clear hmn hcrash hgk hp
        generalize f.s = s at *
        subst hms
        go_upto_region 10 with (fail)
        clear hmf
        refine wp_region_b 12 (by kernel_rfl) (by kernel_rfl) ?_
        simp only [List.take_succ_cons, List.take_zero, List.drop_succ_cons, List.drop_zero]
        refine lb_move _ (by kernel_rfl) rfl ⟨_, (by ((try simp [go_sem]); (try rfl); done)), _, (by (simp only [Act.put, List.setIfInBounds_toArray, List.set_cons_zero, List.set_cons_succ]; rfl)), ?_⟩
        refine lb_val (by kernel_rfl) ⟨_, (by (intro w' hC; clear hC; (try go_simp); (try with_reducible rfl); done)), _, (by (simp only [Act.put, List.setIfInBounds_toArray, List.set_cons_zero, List.set_cons_succ]; rfl)), ?_⟩
        refine lb_val (by kernel_rfl) ⟨_, (by (intro w' hC; clear hC; (try go_simp); (try with_reducible rfl); done)), _, (by (simp only [Act.put, List.setIfInBounds_toArray, List.set_cons_zero, List.set_cons_succ]; rfl)), ?_⟩
        refine lb_val (by kernel_rfl) ⟨_, (by (intro w' hC; (have q0 := (b7.below hC).cell 0; simp only [List.getElem?_toArray, List.getElem?_cons_zero] at q0); clear hC; (try go_simp); (try with_reducible rfl); done)), _, (by (simp only [Act.put, List.setIfInBounds_toArray, List.set_cons_zero, List.set_cons_succ]; rfl)), ?_⟩
        refine lb_val (by kernel_rfl) ⟨_, (by (intro w' hC; (have n0 := (nb7.below hC).cell 0; simp only [List.getElem?_toArray, List.getElem?_cons_zero] at n0); clear hC; (try go_simp); (try with_reducible rfl); done)), _, (by (simp only [Act.put, List.setIfInBounds_toArray, List.set_cons_zero, List.set_cons_succ]; rfl)), ?_⟩
        refine lb_val (by kernel_rfl) ⟨_, (by (intro w' hC; clear hC; (try go_simp); (try with_reducible rfl); done)), _, (by (simp only [Act.put, List.setIfInBounds_toArray, List.set_cons_zero, List.set_cons_succ]; rfl)), ?_⟩
        refine lb_val (by kernel_rfl) ⟨_, (by (intro w' hC; (have p0 := (fb7.below hC).cell 0; simp only [List.getElem?_toArray, List.getElem?_cons_zero] at p0); clear hC; (try go_simp); (try with_reducible rfl); done)), _, (by (simp only [Act.put, List.setIfInBounds_toArray, List.set_cons_zero, List.set_cons_succ]; rfl)), ?_⟩
        refine lb_move _ (by kernel_rfl) rfl ⟨_, (by ((try simp [go_sem]); (try rfl); done)), _, (by (simp only [Act.put, List.setIfInBounds_toArray, List.set_cons_zero, List.set_cons_succ]; rfl)), ?_⟩
        refine lb_move _ (by kernel_rfl) rfl ⟨_, (by ((try simp [go_sem]); (try rfl); done)), _, (by (simp only [Act.put, List.setIfInBounds_toArray, List.set_cons_zero, List.set_cons_succ]; rfl)), ?_⟩
        refine lb_val (by kernel_rfl) ⟨_, (by (intro w' hC; (have hsl := fun W => slice_cut f.x.A f.x.l.length f.x.c mn (by have := OK7.out.2.1; omega) W); clear hC; (try go_simp); (try with_reducible rfl); done)), _, (by (simp only [Act.put, List.setIfInBounds_toArray, List.set_cons_zero, List.set_cons_succ]; rfl)), ?_⟩
        refine lb_move _ (by kernel_rfl) rfl ⟨_, (by ((try simp [go_sem]); (try rfl); done)), _, (by (simp only [Act.put, List.setIfInBounds_toArray, List.set_cons_zero, List.set_cons_succ]; rfl)), ?_⟩
        refine lb_val (by kernel_rfl) ⟨_, (by (intro w' hC; clear hC; (try go_simp); (try with_reducible rfl); done)), _, (by (simp only [Act.put, List.setIfInBounds_toArray, List.set_cons_zero, List.set_cons_succ]; rfl)), ?_⟩
        refine .nil ?_
        intro w8 hb8
        have h8 := H7.out.below hb8
        have hmlen : (mapD M).length < maxLen := by rw [mapD_len]; have := HML.out; simp only [maxLen]; omega
        obtain ⟨w9, hrun, hm9, hg9, _⟩ := h8.map.store Try.underlying3 Try.underlying50 n HWF.out (.agg #[.slice f.x.A mn mn, .int .i64 (mn : Int)]) hmlen
        have hcv : (cutF mn f).v = .agg #[.slice f.x.A mn mn, .int .i64 (mn : Int)] := by simp [FV.v, cutF, Nat.min_eq_left hmle]
        have h9 : DiskAt w9 tb mb (putZ M n (cutF mn f)) (midD D K (i + 1)) := h8.stored hg9 (by rw [mapD_put, hcv]; exact hm9) (fun x hx => by
          rcases putZ_mem hx with rfl | hx
          · exact cut_ok (OK7.out.below hb8) hmle
          · exact h8.ok x hx) (by
          show _ = _
          rw [HSP.out, ← HST.out, HCR.out, ← h8.plain.out]
          simp [plainD, List.map_set]) rfl rfl rfl
        have r8 := own_below R7.out hb8
        have k9 : Fr (fun x => x = mb) w8 w9 := Fr.of_grown hg9 (fun _ _ e => by injection e with e; exact e.symm)
        have R9 := Lib.hid (own_fr r8 k9 (fun g hg e => h8.ownD r8 (by decide) g hg (.inr e)))
        have K9 := Lib.hid ((K7.out.then_below hb8).trans k9 (fun _ _ e => .inr e))
        have H9 := Lib.hid h9
        clear h8 hm9 hg9 h9 r8 k9 hmlen b7 nb7 fb7 H7 R7 K7 hcv hb8
        go_wp2_with fail
        go_roundw
        case rel => exact ⟨i + 1, putZ M n (cutF mn f), hlt, by go_num, H9.out, R9.out, K9.out⟩
        case measure => simp [intOf]; omega
      · have hjb : decide ((j : Int) ≥ 0) = true := decide_eq_true (by omega)
        have hmv : min (max f.s K[j].2) (f.x.l.length : Int) = (mn : Int) := by
          rw [← hmn]
          unfold manyS
          rw [hgk]
          rfl
        obtain ⟨bk, ofk, hAk, hbk, k0, k1⟩ := HK7.out.at_ hj
        subst hAk
        generalize K[j].2 = kj at *
        clear hmn hcrash hgk hp k0
        go_upto_region 9 with (fail)
        clear hmf
        refine wp_region_b 12 (by kernel_rfl) (by kernel_rfl) ?_
        simp only [List.take_succ_cons, List.take_zero, List.drop_succ_cons, List.drop_zero]
        refine lb_move _ (by kernel_rfl) rfl ⟨_, (by ((try simp [go_sem]); (try rfl); done)), _, (by (simp only [Act.put, List.setIfInBounds_toArray, List.set_cons_zero, List.set_cons_succ]; rfl)), ?_⟩
        refine lb_move _ (by kernel_rfl) rfl ⟨_, (by ((try simp [go_sem]); (try rfl); done)), _, (by (simp only [Act.put, List.setIfInBounds_toArray, List.set_cons_zero, List.set_cons_succ]; rfl)), ?_⟩
        refine lb_move _ (by kernel_rfl) rfl ⟨_, (by ((try simp [go_sem]); (try rfl); done)), _, (by (simp only [Act.put, List.setIfInBounds_toArray, List.set_cons_zero, List.set_cons_succ]; rfl)), ?_⟩
        refine lb_val (by kernel_rfl) ⟨_, (by (intro w' hC; clear hC; (try go_simp); (try with_reducible rfl); done)), _, (by (simp only [Act.put, List.setIfInBounds_toArray, List.set_cons_zero, List.set_cons_succ]; rfl)), ?_⟩
        refine lb_val (by kernel_rfl) ⟨_, (by (intro w' hC; clear hC; (try go_simp); (try with_reducible rfl); done)), _, (by (simp only [Act.put, List.setIfInBounds_toArray, List.set_cons_zero, List.set_cons_succ]; rfl)), ?_⟩
        refine lb_val (by kernel_rfl) ⟨_, (by (intro w' hC; (have kb := cellAt hC hbk k1); clear hC; (try go_simp); (try with_reducible rfl); done)), _, (by (simp only [Act.put, List.setIfInBounds_toArray, List.set_cons_zero, List.set_cons_succ]; rfl)), ?_⟩
        refine lb_val (by kernel_rfl) ⟨_, (by (intro w' hC; clear hC; (try go_simp); (try with_reducible rfl); done)), _, (by (simp only [Act.put, List.setIfInBounds_toArray, List.set_cons_zero, List.set_cons_succ]; rfl)), ?_⟩
        refine lb_val (by kernel_rfl) ⟨_, (by (intro w' hC; clear hC; (try go_simp); (try with_reducible rfl); done)), _, (by (simp only [Act.put, List.setIfInBounds_toArray, List.set_cons_zero, List.set_cons_succ]; rfl)), ?_⟩
        refine lb_val (by kernel_rfl) ⟨_, (by (intro w' hC; (have p0 := (fb7.below hC).cell 0; simp only [List.getElem?_toArray, List.getElem?_cons_zero] at p0); clear hC; (try go_simp); (try with_reducible rfl); done)), _, (by (simp only [Act.put, List.setIfInBounds_toArray, List.set_cons_zero, List.set_cons_succ]; rfl)), ?_⟩
        refine lb_val (by kernel_rfl) ⟨_, (by (intro w' hC; clear hC; (try go_simp); (try with_reducible rfl); done)), _, (by (simp only [Act.put, List.setIfInBounds_toArray, List.set_cons_zero, List.set_cons_succ]; rfl)), ?_⟩
        refine lb_val (by kernel_rfl) ⟨_, (by (intro w' hC; clear hC; (try go_simp); (try with_reducible rfl); done)), _, (by (simp only [Act.put, List.setIfInBounds_toArray, List.set_cons_zero, List.set_cons_succ]; rfl)), ?_⟩
        refine lb_assign _ (by kernel_rfl) rfl ⟨_, (by ((try simp [go_sem]); (try rfl); done)), _, (by (simp only [Act.put, List.setIfInBounds_toArray, List.set_cons_zero, List.set_cons_succ]; rfl)), ?_⟩
        refine .nil ?_
        intro w8 hb8
        have H8 := Lib.hid (H7.out.below hb8)
        have nb8 := nb7.below hb8
        have fb8 := fb7.below hb8
        have OK8 := Lib.hid (OK7.out.below hb8)
        have K8 := Lib.hid (K7.out.then_below hb8)
        have R8 := Lib.hid (own_below R7.out hb8)
        have b8 := H8.out.blk
        clear H7 nb7 fb7 OK7 K7 R7 b7 hb8 HK7 k1 hmv
        have H7 := H8
        have nb7 := nb8
        have fb7 := fb8
        have OK7 := OK8
        have K7 := K8
        have R7 := R8
        have b7 := b8
        clear H8 nb8 fb8 OK8 K8 R8 b8
        go_upto_region 10 with (fail)
        refine wp_region_b 12 (by kernel_rfl) (by kernel_rfl) ?_
        simp only [List.take_succ_cons, List.take_zero, List.drop_succ_cons, List.drop_zero]
        refine lb_move _ (by kernel_rfl) rfl ⟨_, (by ((try simp [go_sem]); (try rfl); done)), _, (by (simp only [Act.put, List.setIfInBounds_toArray, List.set_cons_zero, List.set_cons_succ]; rfl)), ?_⟩
        refine lb_val (by kernel_rfl) ⟨_, (by (intro w' hC; clear hC; (try go_simp); (try with_reducible rfl); done)), _, (by (simp only [Act.put, List.setIfInBounds_toArray, List.set_cons_zero, List.set_cons_succ]; rfl)), ?_⟩
        refine lb_val (by kernel_rfl) ⟨_, (by (intro w' hC; clear hC; (try go_simp); (try with_reducible rfl); done)), _, (by (simp only [Act.put, List.setIfInBounds_toArray, List.set_cons_zero, List.set_cons_succ]; rfl)), ?_⟩
        refine lb_val (by kernel_rfl) ⟨_, (by (intro w' hC; (have q0 := (b7.below hC).cell 0; simp only [List.getElem?_toArray, List.getElem?_cons_zero] at q0); clear hC; (try go_simp); (try with_reducible rfl); done)), _, (by (simp only [Act.put, List.setIfInBounds_toArray, List.set_cons_zero, List.set_cons_succ]; rfl)), ?_⟩
        refine lb_val (by kernel_rfl) ⟨_, (by (intro w' hC; (have n0 := (nb7.below hC).cell 0; simp only [List.getElem?_toArray, List.getElem?_cons_zero] at n0); clear hC; (try go_simp); (try with_reducible rfl); done)), _, (by (simp only [Act.put, List.setIfInBounds_toArray, List.set_cons_zero, List.set_cons_succ]; rfl)), ?_⟩
        refine lb_val (by kernel_rfl) ⟨_, (by (intro w' hC; clear hC; (try go_simp); (try with_reducible rfl); done)), _, (by (simp only [Act.put, List.setIfInBounds_toArray, List.set_cons_zero, List.set_cons_succ]; rfl)), ?_⟩
        refine lb_val (by kernel_rfl) ⟨_, (by (intro w' hC; (have p0 := (fb7.below hC).cell 0; simp only [List.getElem?_toArray, List.getElem?_cons_zero] at p0); clear hC; (try go_simp); (try with_reducible rfl); done)), _, (by (simp only [Act.put, List.setIfInBounds_toArray, List.set_cons_zero, List.set_cons_succ]; rfl)), ?_⟩
        refine lb_move _ (by kernel_rfl) rfl ⟨_, (by ((try simp [go_sem]); (try rfl); done)), _, (by (simp only [Act.put, List.setIfInBounds_toArray, List.set_cons_zero, List.set_cons_succ]; rfl)), ?_⟩
        refine lb_move _ (by kernel_rfl) rfl ⟨_, (by ((try simp [go_sem]); (try rfl); done)), _, (by (simp only [Act.put, List.setIfInBounds_toArray, List.set_cons_zero, List.set_cons_succ]; rfl)), ?_⟩
        refine lb_val (by kernel_rfl) ⟨_, (by (intro w' hC; (have hsl := fun W => slice_cut f.x.A f.x.l.length f.x.c mn (by have := OK7.out.2.1; omega) W); clear hC; (try go_simp); (try with_reducible rfl); done)), _, (by (simp only [Act.put, List.setIfInBounds_toArray, List.set_cons_zero, List.set_cons_succ]; rfl)), ?_⟩
        refine lb_move _ (by kernel_rfl) rfl ⟨_, (by ((try simp [go_sem]); (try rfl); done)), _, (by (simp only [Act.put, List.setIfInBounds_toArray, List.set_cons_zero, List.set_cons_succ]; rfl)), ?_⟩
        refine lb_val (by kernel_rfl) ⟨_, (by (intro w' hC; clear hC; (try go_simp); (try with_reducible rfl); done)), _, (by (simp only [Act.put, List.setIfInBounds_toArray, List.set_cons_zero, List.set_cons_succ]; rfl)), ?_⟩
        refine .nil ?_
        intro w8 hb8
        have h8 := H7.out.below hb8
        have hmlen : (mapD M).length < maxLen := by rw [mapD_len]; have := HML.out; simp only [maxLen]; omega
        obtain ⟨w9, hrun, hm9, hg9, _⟩ := h8.map.store Try.underlying3 Try.underlying50 n HWF.out (.agg #[.slice f.x.A mn mn, .int .i64 (mn : Int)]) hmlen
        have hcv : (cutF mn f).v = .agg #[.slice f.x.A mn mn, .int .i64 (mn : Int)] := by simp [FV.v, cutF, Nat.min_eq_left hmle]
        have h9 : DiskAt w9 tb mb (putZ M n (cutF mn f)) (midD D K (i + 1)) := h8.stored hg9 (by rw [mapD_put, hcv]; exact hm9) (fun x hx => by
          rcases putZ_mem hx with rfl | hx
          · exact cut_ok (OK7.out.below hb8) hmle
          · exact h8.ok x hx) (by
          show _ = _
          rw [HSP.out, ← HST.out, HCR.out, ← h8.plain.out]
          simp [plainD, List.map_set]) rfl rfl rfl
        have r8 := own_below R7.out hb8
        have k9 : Fr (fun x => x = mb) w8 w9 := Fr.of_grown hg9 (fun _ _ e => by injection e with e; exact e.symm)
        have R9 := Lib.hid (own_fr r8 k9 (fun g hg e => h8.ownD r8 (by decide) g hg (.inr e)))
        have K9 := Lib.hid ((K7.out.then_below hb8).trans k9 (fun _ _ e => .inr e))
        have H9 := Lib.hid h9
        clear h8 hm9 hg9 h9 r8 k9 hmlen b7 nb7 fb7 H7 R7 K7 hcv hb8
        go_wp2_with fail
        go_roundw
        case rel => exact ⟨i + 1, putZ M n (cutF mn f), hlt, by go_num, H9.out, R9.out, K9.out⟩
        case measure => simp [intOf]; omega
    · have e : i = D.L.length := by rw [← HLL.out]; omega
      rw [e, mid_end] at hM
      clear hr
      go_wp2_with fail
      go_end0
      exact ⟨rfl, ⟨_, hM⟩, hf⟩

end Go.Proofs.Ytmdbfhfjaapeoaa

/- tenderlaw11.lives. -/
namespace Go.Proofs.Ytmdbfhfjaapeoaa
open Go.RowKit Go.Maps

theorem DiskTo.low {w w' : World} {tb mb B : Nat} {D : DP} (h : DiskTo w tb mb D w') (h1 : B ≤ tb) (h2 : B ≤ mb) (hs : B ≤ w.heap.size) : Below B w w' :=
  h.fr.below hs (fun k hk e => by rcases e with rfl | rfl <;> omega)
def dl1 : DP := ⟨[(1, ([], 0))], 1, 100, -1⟩
def dl2 : DP := ⟨[(1, ([1, 2, 3], 0))], 1, 100, -1⟩
def dl3 : DP := ⟨[(1, ([1, 2, 3], 3))], 1, 100, -1⟩
def dl4 : DP := ⟨[(1, ([1, 2, 3, 4, 5, 6, 7], 3))], 1, 100, -1⟩
def dl5 : DP := ⟨[(1, ([1, 2, 3, 4, 5], 5))], 1, 100, -1⟩
theorem dl_make : makeS (newD 100) = (dl1, 1, 0) := by kernel_rfl
theorem dl_append : appendS dl1 1 [1, 2, 3] = (dl2, 0) := by kernel_rfl
theorem dl_sync : syncS dl2 1 = (dl3, 0) := by kernel_rfl
theorem dl_append2 : appendS dl3 1 [4, 5, 6, 7] = (dl4, 0) := by kernel_rfl
theorem dl_crash : crashS dl4 [(1, 5)] = dl5 := by kernel_rfl
theorem dl_read : readS dl5 1 = ([1, 2, 3, 4, 5], 0) := by kernel_rfl
theorem dl_sure : (fileS dl5 1).2 = 5 := by kernel_rfl
theorem dok1 : DOk dl1 1 := by have := (DOk.new 100).make; rw [dl_make] at this; exact this
theorem dok2 : DOk dl2 1 := by have := dok1.append 1 [1, 2, 3]; rw [dl_append] at this; exact this
theorem dok3 : DOk dl3 1 := by have := dok2.sync 1; rw [dl_sync] at this; exact this
theorem dok4 : DOk dl4 1 := by have := dok3.append 1 [4, 5, 6, 7]; rw [dl_append2] at this; exact this
theorem dok5 : DOk dl5 1 := by have := dok4.crash [(1, 5)]; rw [dl_crash] at this; exact this
theorem lit3 (w : World) : BV.ok (w.alloc (.cells #[.int .u8 1, .int .u8 2, .int .u8 3] 5)) (fun _ => True) ⟨some ⟨w.heap.size, 0, none⟩, 3, [1, 2, 3]⟩ := by
  refine ⟨?_, by simp, by simp [maxLen]⟩
  have e : ([1, 2, 3] : List UInt8).map bv = [.int .u8 1, .int .u8 2, .int .u8 3] := by kernel_rfl
  unfold By
  rw [e]
  exact (Rd.lit rfl rfl (by simp)).mono (fun _ _ _ => trivial)
theorem lit4 (w : World) : BV.ok (w.alloc (.cells #[.int .u8 4, .int .u8 5, .int .u8 6, .int .u8 7] 5)) (fun _ => True) ⟨some ⟨w.heap.size, 0, none⟩, 4, [4, 5, 6, 7]⟩ := by
  refine ⟨?_, by simp, by simp [maxLen]⟩
  have e : ([4, 5, 6, 7] : List UInt8).map bv = [.int .u8 4, .int .u8 5, .int .u8 6, .int .u8 7] := by kernel_rfl
  unfold By
  rw [e]
  exact (Rd.lit rfl rfl (by simp)).mono (fun _ _ _ => trivial)
theorem litK (w : World) : Kps (w.alloc (.cells #[.int .i64 1, .int .i64 5] 61)) (fun b => w.heap.size ≤ b) (some ⟨w.heap.size, 0, none⟩) [(1, 5)] :=
  ⟨(Rd.lit (w := w) (t := 61) (size := 2) (n := 1) (xs := [((1 : Int), (5 : Int))].flatMap keepC) rfl rfl rfl).mono (fun _ _ hz => hz), by simp⟩

set_option maxRecDepth 100000 in
set_option maxHeartbeats 2000000 in
theorem lives11_any (w : World) : Calls Try.prog 7 #[] w fun e w' => e = .returned (.bool true) ∧ Below w.heap.size w w' := by
  have wf1 : (Lit.int .i64 1).wf = true := by decide
  go_enter Try.func7, Try.ntmps7
  go_wp2_with fail
  refine (diskNew_any 100 _).mono ?_
  rintro e w1 ⟨tb, mb, rfl, h1, htb, hmb, hb1⟩
  have HM := make_any tb mb _ _ 0 w1 h1 (DOk.new 100) (by omega)
  rw [dl_make] at HM
  replace HM := Lib.hid HM
  clear h1
  go_wp2_with fail
  refine HM.out.mono ?_
  rintro e w2 ⟨rfl, h2⟩
  have hb2 := hb1.trans (h2.low htb hmb hb1.size)
  obtain ⟨L2, h2⟩ := h2.at_
  have ba2 : Below w2.heap.size w2 (w2.alloc (.cells #[.int .u8 1, .int .u8 2, .int .u8 3] 5)) := (Below.refl _ _).alloc (Nat.le_refl _) _
  have HA := append_any tb mb L2 dl1 1 1 ⟨some ⟨w2.heap.size, 0, none⟩, 3, [1, 2, 3]⟩ _ (h2.below ba2) dok1 (by omega) wf1 (lit3 w2) (by simp)
  rw [dl_append] at HA
  replace HA := Lib.hid HA
  have hb2a := hb2.trans (ba2.mono hb2.size)
  clear h2 HM ba2 hb1
  go_wp2_with fail
  refine HA.out.mono ?_
  rintro e w3 ⟨rfl, h3⟩
  have hb3 := hb2a.trans (h3.low htb hmb hb2a.size)
  obtain ⟨L3, h3⟩ := h3.at_
  have HS := sync_any tb mb L3 dl2 1 1 _ h3 dok2 (by omega) wf1
  rw [dl_sync] at HS
  replace HS := Lib.hid HS
  clear h3 HA hb2 hb2a
  go_wp2_with fail
  refine HS.out.mono ?_
  rintro e w4 ⟨rfl, h4⟩
  have hb4 := hb3.trans (h4.low htb hmb hb3.size)
  obtain ⟨L4, h4⟩ := h4.at_
  have ba4 : Below w4.heap.size w4 (w4.alloc (.cells #[.int .u8 4, .int .u8 5, .int .u8 6, .int .u8 7] 5)) := (Below.refl _ _).alloc (Nat.le_refl _) _
  have HA := append_any tb mb L4 dl3 1 1 ⟨some ⟨w4.heap.size, 0, none⟩, 4, [4, 5, 6, 7]⟩ _ (h4.below ba4) dok3 (by omega) wf1 (lit4 w4) (by simp)
  rw [dl_append2] at HA
  replace HA := Lib.hid HA
  have hb4a := hb4.trans (ba4.mono hb4.size)
  clear h4 HS ba4 hb3
  go_wp2_with fail
  refine HA.out.mono ?_
  rintro e w5 ⟨rfl, h5⟩
  have hb5 := hb4a.trans (h5.low htb hmb hb4a.size)
  obtain ⟨L5, h5⟩ := h5.at_
  have ba5 : Below w5.heap.size w5 (w5.alloc (.cells #[.int .i64 1, .int .i64 5] 61)) := (Below.refl _ _).alloc (Nat.le_refl _) _
  have HC := crash_any tb mb L5 dl4 1 (some ⟨w5.heap.size, 0, none⟩) 1 [(1, 5)] (fun b => w5.heap.size ≤ b) _ (h5.below ba5) dok4 (by omega) (litK w5) (fun b _ hz e => by
    have q1 := h5.blk.lt
    have q2 := h5.map.lt
    omega)
  rw [dl_crash] at HC
  replace HC := Lib.hid HC
  have hb5a := hb5.trans (ba5.mono hb5.size)
  clear h5 HA ba5 hb4 hb4a
  go_wp2_with fail
  refine HC.out.mono ?_
  rintro e w6 ⟨rfl, h6⟩
  have hb6 := hb5a.trans (h6.low htb hmb hb5a.size)
  obtain ⟨L6, h6⟩ := h6.at_
  have HR := read_any tb mb L6 dl5 1 1 _ h6 dok5 wf1
  rw [dl_read] at HR
  replace HR := Lib.hid HR
  have H6 := Lib.hid h6
  clear h6 HC hb5 hb5a
  go_wp2_with fail
  refine HR.out.mono ?_
  rintro e w7 ⟨A, c, l, rfl, hl, _, hb7⟩
  have e5 : l.length = 5 := by rw [show l = [1, 2, 3, 4, 5] from hl.out]; rfl
  rw [e5]
  have hw7 := hb6.trans (hb7.mono hb6.size)
  have HU := sure_any tb mb L6 dl5 1 _ (H6.out.below hb7) wf1
  rw [dl_sure] at HU
  replace HU := Lib.hid HU
  clear H6 HR hl hb6 hb7
  go_wp2_with fail
  refine HU.out.mono ?_
  rintro e w8 ⟨rfl, rfl⟩
  go_wp2_with fail
  go_ret
  exact ⟨rfl, hw7⟩
end Go.Proofs.Ytmdbfhfjaapeoaa

/- tenderlaw11.Op as values; Light. -/
namespace Go.Proofs.Ytmdbfhfjaapeoaa
open Go.RowKit

/-- a call -/
structure OpD where
  kind : Int
  file : Int
  n : Int
  x : BV
  kA : Option Addr
  kc : Nat
  K : List (Int × Int)
def OpD.cells (o : OpD) : List Value := [.int .i64 o.kind, .int .i64 o.file, .int .i64 o.n, .slice o.x.A o.x.l.length o.x.c, .slice o.kA o.K.length o.kc]
structure OpD.ok (w : World) (Z : Nat → Prop) (o : OpD) : Prop where
  k : -9223372036854775808 ≤ o.kind ∧ o.kind < 9223372036854775808
  f : -9223372036854775808 ≤ o.file ∧ o.file < 9223372036854775808
  n : -9223372036854775808 ≤ o.n ∧ o.n < 9223372036854775808
  x : o.x.ok w Z
  len : o.x.l.length ≤ 140737488355328
  kr : Rd w Z 2 o.kA o.K.length (o.K.flatMap keepC)
  kl : o.K.length ≤ 140737488355328
theorem OpD.ok.fr {w w' : World} {Z S : Nat → Prop} {o : OpD} (h : o.ok w Z) (k : Fr S w w') (hs : ∀ b, b < w.heap.size → Z b → ¬ S b) : o.ok w' Z := ⟨h.k, h.f, h.n, h.x.fr k hs, h.len, h.kr.fr k hs, h.kl⟩
theorem OpD.ok.below {w w' : World} {Z : Nat → Prop} {o : OpD} (h : o.ok w Z) (k : Below w.heap.size w w') : o.ok w' Z := h.fr (Fr.of_below k (fun _ => False)) (fun _ _ _ h => h)
theorem OpD.ok.mono {w : World} {Z Z' : Nat → Prop} {o : OpD} (h : o.ok w Z) (hz : ∀ b, b < w.heap.size → Z b → Z' b) : o.ok w Z' := ⟨h.k, h.f, h.n, h.x.mono hz, h.len, h.kr.mono hz, h.kl⟩
theorem OpD.ok.kps {w : World} {Z : Nat → Prop} {o : OpD} (h : o.ok w Z) (hk : o.K.length ≤ 1000000) : Kps w Z o.kA o.K := ⟨h.kr, hk⟩
/-- a slice of them -/
structure OpsD (w : World) (Z : Nat → Prop) (A : Option Addr) (l : List OpD) : Prop where
  rd : Rd w Z 5 A l.length (l.flatMap OpD.cells)
  ok : ∀ o ∈ l, o.ok w Z
  len : l.length ≤ 4398046511104
theorem OpsD.fr {w w' : World} {Z S : Nat → Prop} {A : Option Addr} {l : List OpD} (h : OpsD w Z A l) (k : Fr S w w') (hs : ∀ b, b < w.heap.size → Z b → ¬ S b) : OpsD w' Z A l :=
  ⟨h.rd.fr k hs, fun o ho => (h.ok o ho).fr k hs, h.len⟩
theorem OpsD.below {w w' : World} {Z : Nat → Prop} {A : Option Addr} {l : List OpD} (h : OpsD w Z A l) (k : Below w.heap.size w w') : OpsD w' Z A l := h.fr (Fr.of_below k (fun _ => False)) (fun _ _ _ h => h)
theorem OpsD.at_ {w : World} {Z : Nat → Prop} {A : Option Addr} {l : List OpD} {i : Nat} (h : OpsD w Z A l) (hi : i < l.length) :
    ∃ b off, A = some ⟨b, off, none⟩ ∧ Z b ∧ b < w.heap.size ∧ w.cell? ⟨b, off + i * 5, none⟩ = some (.int .i64 l[i].kind) ∧ w.cell? ⟨b, off + i * 5 + 1, none⟩ = some (.int .i64 l[i].file) ∧
      w.cell? ⟨b, off + i * 5 + 2, none⟩ = some (.int .i64 l[i].n) ∧ w.cell? ⟨b, off + i * 5 + 3, none⟩ = some (.slice l[i].x.A l[i].x.l.length l[i].x.c) ∧ w.cell? ⟨b, off + i * 5 + 4, none⟩ = some (.slice l[i].kA l[i].K.length l[i].kc) := by
  obtain ⟨b, off, hA, hz, hb, hc⟩ := h.rd.2 (by omega)
  have hg : ∀ j, j < 5 → (l.flatMap OpD.cells)[i * 5 + j]? = (OpD.cells l[i])[j]? := fun j hj => flat_get (k := 5) (fun _ => rfl) l i j hi hj
  refine ⟨b, off, hA, hz, hb, ?_, ?_, ?_, ?_, ?_⟩
  · exact hc _ _ (hg 0 (by omega))
  · rw [Nat.add_assoc]; exact hc _ _ (hg 1 (by omega))
  · rw [Nat.add_assoc]; exact hc _ _ (hg 2 (by omega))
  · rw [Nat.add_assoc]; exact hc _ _ (hg 3 (by omega))
  · rw [Nat.add_assoc]; exact hc _ _ (hg 4 (by omega))
def OpD.sz (o : OpD) : Nat := o.x.l.length + o.K.length
def lensD (l : List OpD) : Nat := (l.map OpD.sz).sum
def lightD (l : List OpD) : Bool := decide (l.length ≤ 200) && decide (lensD l ≤ 20000)
theorem lensD_take (l : List OpD) (i : Nat) (hi : i < l.length) : lensD (l.take (i + 1)) = lensD (l.take i) + l[i].sz := by
  unfold lensD
  rw [List.take_succ_eq_append_getElem hi, List.map_append, List.sum_append]
  simp
theorem lensD_le (K : Nat) : ∀ (l : List OpD), (∀ o ∈ l, o.sz ≤ K) → lensD l ≤ l.length * K
  | [], _ => by simp [lensD]
  | o :: l, h => by
    have h1 := h o (by simp)
    have h2 := lensD_le K l (fun o ho => h o (by simp [ho]))
    simp only [lensD, List.map_cons, List.sum_cons, List.length_cons, Nat.add_mul] at h2 ⊢
    omega
theorem lensD_take_le (K : Nat) (l : List OpD) (i : Nat) (h : ∀ o ∈ l, o.sz ≤ K) : lensD (l.take i) ≤ i * K := by
  have h1 := lensD_le K (l.take i) (fun o ho => h o (List.mem_of_mem_take ho))
  have h2 : (l.take i).length ≤ i := List.length_take_le _ _
  have h3 : (l.take i).length * K ≤ i * K := Nat.mul_le_mul_right _ h2
  omega
theorem lensD_mem {l : List OpD} {o : OpD} (h : o ∈ l) : o.sz ≤ lensD l := by
  induction l with
  | nil => cases h
  | cons y l ih =>
    simp only [lensD, List.map_cons, List.sum_cons]
    rcases List.mem_cons.1 h with rfl | h
    · omega
    · have := ih h
      unfold lensD at this
      omega
theorem lightD_len {l : List OpD} (h : lightD l = true) : l.length ≤ 200 ∧ lensD l ≤ 20000 ∧ ∀ o ∈ l, o.x.l.length ≤ 20000 ∧ o.K.length ≤ 20000 := by
  unfold lightD at h
  simp only [Bool.and_eq_true, decide_eq_true_eq] at h
  refine ⟨h.1, h.2, fun o ho => ?_⟩
  have := lensD_mem ho
  unfold OpD.sz at this
  omega
def SeenD (l : List OpD) (i : Nat) (s : Int) : Prop := i ≤ 200 → s = (lensD (l.take i) : Int)
theorem szD_le {w : World} {Z : Nat → Prop} {o : OpD} (h : o.ok w Z) : o.sz ≤ 281474976710656 := by
  have h1 := h.len
  have h2 := h.kl
  unfold OpD.sz
  omega
theorem seenD_step {l : List OpD} {i : Nat} {s : Int} (hs : SeenD l i s) (hi : i < l.length) (h : ∀ o ∈ l, o.sz ≤ 281474976710656) : SeenD l (i + 1) (wrap64 (s + (l[i].sz : Int))) := by
  intro hi2
  have e := hs (by omega)
  have h1 := lensD_take_le 281474976710656 l (i + 1) h
  have h2 := lensD_take l i hi
  have h3 : (i + 1) * 281474976710656 ≤ 201 * 281474976710656 := Nat.mul_le_mul_right _ (by omega)
  rw [h2] at h1 ⊢
  rw [e, IntWalk.wrap64_in _ ⟨by omega, by omega⟩]
  omega

set_option maxRecDepth 100000 in
set_option maxHeartbeats 400000 in
theorem light11_any (A : Option Addr) (c : Nat) (l : List OpD) (Z : Nat → Prop) (w : World) (h : OpsD w Z A l) :
    Calls Try.prog 6 #[.slice A l.length c] w fun e w' => e = .returned (.bool (lightD l)) ∧ Below w.heap.size w w' := by
  have hlen := h.len
  go_enter Try.func6, Try.ntmps6
  go_wp2_with fail
  go_loopw [3, 8] (fun sv iv wr => ∃ (i : Nat) (s : Int), i ≤ l.length ∧ iv = .int .i64 (i : Int) ∧ sv = .int .i64 s ∧ SeenD l i s ∧ Below w.heap.size w wr) (fun _ iv _ => l.length - (intOf iv).toNat)
  case atStart => exact ⟨0, 0, Nat.zero_le _, rfl, rfl, by intro _; simp [lensD], Below.refl _ _⟩
  case round =>
    obtain ⟨i, s, hi, rfl, rfl, hs, hb⟩ := hrel
    by_cases hlt : i < l.length
    · obtain ⟨b, off, rfl, hz, hbb, hc0, hc1, hc2, hc3, hc4⟩ := (h.below hb).at_ hlt
      have hsz := hb.size
      have hok := h.ok _ (List.getElem_mem hlt)
      have hst := Lib.hid (seenD_step hs hlt (fun o ho => szD_le (h.ok o ho)))
      generalize l[i] = o at *
      obtain ⟨kind, file, n, ⟨xA, xc, xl⟩, kA, kc, K⟩ := o
      obtain ⟨_, _, _, _, h1, _, h2⟩ := hok
      dsimp only at h1 h2
      have hw1 := IntWalk.wrap64_in ((xl.length : Int) + (K.length : Int)) ⟨by omega, by omega⟩
      clear hs
      go_wp2_with fail
      go_roundw
      case rel => exact ⟨i + 1, _, hlt, by go_num, rfl, by have := hst.out; unfold OpD.sz at this; push_cast at this; first | exact this | (simpa [hw1] using this), (hb.alloc hsz _)⟩
      case measure => simp [intOf]; omega
    · have e : i = l.length := by omega
      subst e
      by_cases h2 : l.length ≤ 200
      · have hss := hs (by omega)
        rw [List.take_length] at hss
        subst hss
        go_wp2
        all_goals
          go_ret
          exact ⟨ret_b (by unfold lightD; rw [Bool.eq_iff_iff]; simp; omega), hb⟩
      · go_wp2
        all_goals
          go_ret
          exact ⟨ret_b (by unfold lightD; rw [Bool.eq_iff_iff]; simp; omega), hb⟩
end Go.Proofs.Ytmdbfhfjaapeoaa

/- DiskNobody is true for every input: a disk that is none does nothing. No condition beyond the row's own. -/
namespace Go.Proofs.Ytmdbfhfjaapeoaa
open Go.RowKit

set_option maxRecDepth 100000 in
set_option maxHeartbeats 2000000 in
theorem diskNobody_any (o : OpD) (w : World) (ho : o.ok w (fun b => b < w.heap.size)) :
    Calls Try.prog 5 #[.agg #[.int .i64 o.kind, .int .i64 o.file, .int .i64 o.n, .slice o.x.A o.x.l.length o.x.c, .slice o.kA o.K.length o.kc]] w fun e w' => e = .returned (.bool true) ∧ Below w.heap.size w w' := by
  obtain ⟨kind, file, n, ⟨xA, xc, xl⟩, kA, kc, K⟩ := o
  dsimp only at *
  have b0 := Blk.new w 35 #[.int .i64 kind, .int .i64 file, .int .i64 n, .slice xA xl.length xc, .slice kA K.length kc]
  have hl0 : Below w.heap.size w (w.alloc (.cells #[.int .i64 kind, .int .i64 file, .int .i64 n, .slice xA xl.length xc, .slice kA K.length kc] 35)) := (Below.refl _ _).alloc (Nat.le_refl _) _
  have hz0 : (w.alloc (.cells #[.int .i64 kind, .int .i64 file, .int .i64 n, .slice xA xl.length xc, .slice kA K.length kc] 35)).heap.size = w.heap.size + 1 := by simp
  obtain ⟨tb, htb⟩ : ∃ tb, tb = w.heap.size := ⟨_, rfl⟩
  go_enter Try.func5, Try.ntmps5
  go_wp2_with fail
  rw [← hz0]
  generalize w.alloc (.cells #[.int .i64 kind, .int .i64 file, .int .i64 n, .slice xA xl.length xc, .slice kA K.length kc] 35) = w1 at *
  have hs1 := hl0.size
  refine (light11_any (some ⟨w1.heap.size, 0, none⟩) 1 [⟨kind, file, n, ⟨xA, xc, xl⟩, kA, kc, K⟩] (fun b => b < w.heap.size ∨ w1.heap.size ≤ b) _ ⟨(Rd.lit rfl rfl (by simp)).mono (fun b _ hb => .inr hb), ?_, by simp⟩).mono ?_
  · intro y hy
    obtain rfl := List.mem_singleton.1 hy
    exact (ho.below (hl0.alloc hs1 _)).mono (fun b _ hb => .inl hb)
  rintro e w2 ⟨rfl, hb2⟩
  have hw12 : Below w1.heap.size w1 w2 := ((Below.refl _ _).alloc (Nat.le_refl _) _).trans (hb2.mono (by simp))
  have hw2 : Below w.heap.size w w2 := hl0.trans (hw12.mono hs1)
  have b2 := b0.below hw12
  have hs2 := hw2.size
  clear hb2 hl0 hz0 b0 hw12 ho
  rw [← htb] at b2
  cases hL : lightD [⟨kind, file, n, ⟨xA, xc, xl⟩, kA, kc, K⟩]
  · go_wp2_with fail
    refine (lives11_any _).mono ?_
    rintro e w9 ⟨rfl, hb9⟩
    go_wp2_with fail
    go_ret
    exact ⟨rfl, hw2.trans (hb9.mono hw2.size)⟩
  · clear hL
    have hp := (Blk.new w2 52 #[.map none, .int .i64 0, .int .i64 0, .int .i64 0])
    have hba : Below w2.heap.size w2 (w2.alloc (.cells #[.map none, .int .i64 0, .int .i64 0, .int .i64 0] 52)) := (Below.refl _ _).alloc (Nat.le_refl _) _
    have hbb : Below (w2.alloc (.cells #[.map none, .int .i64 0, .int .i64 0, .int .i64 0] 52)).heap.size (w2.alloc (.cells #[.map none, .int .i64 0, .int .i64 0, .int .i64 0] 52)) ((w2.alloc (.cells #[.map none, .int .i64 0, .int .i64 0, .int .i64 0] 52)).alloc (.cells #[.pointer none, .pointer (some ⟨w2.heap.size, 0, none⟩)] 26)) := (Below.refl _ _).alloc (Nat.le_refl _) _
    have hp3 := hp.below hbb
    have hg3 := Blk.new (w2.alloc (.cells #[.map none, .int .i64 0, .int .i64 0, .int .i64 0] 52)) 26 #[.pointer none, .pointer (some ⟨w2.heap.size, 0, none⟩)]
    have b3 := (b2.below hba).below hbb
    have hw3 := (hw2.trans (hba.mono hs2)).trans (hbb.mono (Nat.le_trans hs2 hba.size))
    rw [show (w2.alloc (.cells #[.map none, .int .i64 0, .int .i64 0, .int .i64 0] 52)).heap.size = w2.heap.size + 1 by simp] at hg3
    clear hp hba hbb b2 hw2 hs2
    obtain ⟨pb, hpb⟩ : ∃ pb, pb = w2.heap.size := ⟨_, rfl⟩
    go_wp2_with fail
    rw [← htb, ← hpb]
    rw [← hpb] at hp3 hg3 b3 hw3
    clear hpb htb
    generalize (w2.alloc (.cells #[.map none, .int .i64 0, .int .i64 0, .int .i64 0] 52)).alloc (.cells #[.pointer none, .pointer (some ⟨pb, 0, none⟩)] 26) = w3 at *
    go_loopw [18] (fun iv wr => ∃ i : Nat, i ≤ 2 ∧ iv = .int .i64 (i : Int) ∧ Below w3.heap.size w3 wr) (fun iv _ => 2 - (intOf iv).toNat)
    case atStart => exact ⟨0, by omega, rfl, Below.refl _ _⟩
    case round =>
      obtain ⟨i, hi, rfl, hu0⟩ := hrel
      have b0 := b3.below hu0
      by_cases hlt : i < 2
      · obtain ⟨v, hcv, hn0⟩ : ∃ v, (wr.cell? ⟨pb + 1, 0 + i, none⟩ = some (.pointer v)) ∧ NoD v wr := by
          have hg := hg3.below hu0
          obtain rfl | rfl : i = 0 ∨ i = 1 := by omega
          · exact ⟨none, hg.cell 0, NoD.nil _⟩
          · exact ⟨_, hg.cell 1, NoD.plain (hp3.below hu0)⟩
        rw [Nat.zero_add] at hcv
        clear hg3 hp3 b3
        have q1 := b0.cell 1
        have q2 := b0.cell 2
        have q3 := b0.cell 3
        have q4 := b0.cell 4
        simp only [List.getElem?_toArray, List.getElem?_cons_zero, List.getElem?_cons_succ] at q1 q2 q3 q4
        go_wp2_with fail
        refine (make_no v _ hn0).mono ?_
        rintro e u1 ⟨rfl, hb1⟩
        have hu1 := hu0.trans (hb1.mono hu0.size)
        have hn1 := hn0.below hb1
        have b1 := b0.below hb1
        clear hb1 hu0 hn0 b0 q1 q2 q3 q4
        have q1 := b1.cell 1
        have q2 := b1.cell 2
        have q3 := b1.cell 3
        have q4 := b1.cell 4
        simp only [List.getElem?_toArray, List.getElem?_cons_zero, List.getElem?_cons_succ] at q1 q2 q3 q4
        go_wp2_with fail
        refine (read_no v _ _ hn1).mono ?_
        rintro e u2 ⟨rfl, hb2⟩
        have hu2 := hu1.trans (hb2.mono hu1.size)
        have hn2 := hn1.below hb2
        have b2 := b1.below hb2
        clear hb2 hu1 hn1 b1 q1 q2 q3 q4
        have q1 := b2.cell 1
        have q2 := b2.cell 2
        have q3 := b2.cell 3
        have q4 := b2.cell 4
        simp only [List.getElem?_toArray, List.getElem?_cons_zero, List.getElem?_cons_succ] at q1 q2 q3 q4
        go_wp2_with fail
        refine (stop_no v _ _ hn2).mono ?_
        rintro e u9 ⟨rfl, rfl⟩
        go_wp2_with fail
        refine (crash_no v _ _ _ _ hn2).mono ?_
        rintro e u9 ⟨rfl, rfl⟩
        go_wp2_with fail
        refine (append_no v _ _ _ _ _ hn2).mono ?_
        rintro e u3 ⟨rfl, hb3⟩
        have hu3 := hu2.trans (hb3.mono hu2.size)
        have hn3 := hn2.below hb3
        have b3 := b2.below hb3
        clear hb3 hu2 hn2 b2 q1 q2 q3 q4
        have q1 := b3.cell 1
        have q2 := b3.cell 2
        have q3 := b3.cell 3
        have q4 := b3.cell 4
        simp only [List.getElem?_toArray, List.getElem?_cons_zero, List.getElem?_cons_succ] at q1 q2 q3 q4
        go_wp2_with fail
        refine (sync_no v _ _ hn3).mono ?_
        rintro e u4 ⟨rfl, hb4⟩
        have hu4 := hu3.trans (hb4.mono hu3.size)
        have hn4 := hn3.below hb4
        have b4 := b3.below hb4
        clear hb4 hu3 hn3 b3 q1 q2 q3 q4
        have q1 := b4.cell 1
        have q2 := b4.cell 2
        have q3 := b4.cell 3
        have q4 := b4.cell 4
        simp only [List.getElem?_toArray, List.getElem?_cons_zero, List.getElem?_cons_succ] at q1 q2 q3 q4
        go_wp2_with fail
        refine (drop_no v _ _ hn4).mono ?_
        rintro e u5 ⟨rfl, hb5⟩
        have hu5 := hu4.trans (hb5.mono hu4.size)
        have hn5 := hn4.below hb5
        have b5 := b4.below hb5
        clear hb5 hu4 hn4 b4 q1 q2 q3 q4
        have q1 := b5.cell 1
        have q2 := b5.cell 2
        have q3 := b5.cell 3
        have q4 := b5.cell 4
        simp only [List.getElem?_toArray, List.getElem?_cons_zero, List.getElem?_cons_succ] at q1 q2 q3 q4
        go_wp2_with fail
        refine (sure_no v _ _ hn5).mono ?_
        rintro e u9 ⟨rfl, rfl⟩
        go_wp2_with fail
        refine (used_no v _ hn5).mono ?_
        rintro e u9 ⟨rfl, rfl⟩
        go_wp2_with fail
        refine (room_no v _ hn5).mono ?_
        rintro e u9 ⟨rfl, rfl⟩
        go_wp2_with fail
        refine (files_no v _ hn5).mono ?_
        rintro e u9 ⟨rfl, rfl⟩
        go_wp2_with fail
        refine (off_no v _ hn5).mono ?_
        rintro e u9 ⟨rfl, rfl⟩
        go_wp2_with fail
        go_roundw
        case rel => exact ⟨i + 1, by omega, by go_num, hu5⟩
        case measure => simp [intOf]; omega
      · obtain rfl : i = 2 := by omega
        go_wp2_with fail
        refine (diskClone_nil _).mono ?_
        rintro e u9 ⟨rfl, rfl⟩
        have hwr := hw3.trans (hu0.mono hw3.size)
        go_wp2_with fail
        refine (lives11_any _).mono ?_
        rintro e w9 ⟨rfl, hb9⟩
        go_wp2_with fail
        go_ret
        exact ⟨rfl, hwr.trans (hb9.mono hwr.size)⟩

end Go.Proofs.Ytmdbfhfjaapeoaa

/- tenderlaw11.Op: as an argument, in slices. -/
namespace Go.Proofs.Ytmdbfhfjaapeoaa
open Go.RowKit Go.WideShapes Go.ChangeShapes Go.ChangeAt Go.Deep Go.Joins

section
variable {H : Type} {enc : TypeId × Value → H} {w : World} {spare : Nat → Bool} {held : Bool}
theorem listD5 {α : Type} {l : List α} (h : l.length = 5) : ∃ a0 a1 a2 a3 a4, l = [a0, a1, a2, a3, a4] := by
  match l, h with
  | [a0, a1, a2, a3, a4], _ => exact ⟨_, _, _, _, _, rfl⟩
theorem listD2 {α : Type} {l : List α} (h : l.length = 2) : ∃ a0 a1, l = [a0, a1] := by
  match l, h with
  | [a0, a1], _ => exact ⟨_, _, rfl⟩
set_option maxRecDepth 100000 in
theorem open_keepD {n : Nat} {cs : List Value} {x : DataW H × List MemPlace} (h : DataW.trod enc Try.prog w 0 spare held n 61 cs = some x) (hw : Within 61 x) :
    ∃ o : Int × Int, cs = keepC o ∧ True := by
  obtain ⟨ys, n', hcl, hyl, hf⟩ := open_st Try.underlying61 (by kernel_rfl) h (by kernel_rfl) hw
  obtain ⟨a0, a1, rfl⟩ := listD2 hcl
  obtain ⟨y0, y1, rfl⟩ := listD2 hyl
  obtain ⟨k, e, _, wk⟩ := DataW.trod_int Try.underlying3 (hf 0 _ _ _ rfl rfl rfl).1
  obtain rfl := List.singleton_inj.1 e
  obtain ⟨m, e, _, wm⟩ := DataW.trod_int Try.underlying3 (hf 1 _ _ _ rfl rfl rfl).1
  obtain rfl := List.singleton_inj.1 e
  exact ⟨(k, m), rfl, trivial⟩
set_option maxRecDepth 100000 in
theorem open_opD {n : Nat} {cs : List Value} {x : DataW H × List MemPlace} (h : DataW.trod enc Try.prog w 0 spare held n 35 cs = some x) (hw : Within 35 x) :
    ∃ o : OpD, cs = o.cells ∧ o.ok w (fun b => b < w.heap.size) := by
  obtain ⟨ys, n', hcl, hyl, hf⟩ := open_st Try.underlying35 (by kernel_rfl) h (by kernel_rfl) hw
  obtain ⟨a0, a1, a2, a3, a4, rfl⟩ := listD5 hcl
  obtain ⟨y0, y1, y2, y3, y4, rfl⟩ := listD5 hyl
  obtain ⟨k, e, _, wk⟩ := DataW.trod_int Try.underlying3 (hf 0 _ _ _ rfl rfl rfl).1
  obtain rfl := List.singleton_inj.1 e
  obtain ⟨m, e, _, wm⟩ := DataW.trod_int Try.underlying3 (hf 1 _ _ _ rfl rfl rfl).1
  obtain rfl := List.singleton_inj.1 e
  obtain ⟨q, e, _, wq⟩ := DataW.trod_int Try.underlying3 (hf 2 _ _ _ rfl rfl rfl).1
  obtain rfl := List.singleton_inj.1 e
  obtain ⟨b, rfl, hb, hbl⟩ := open_bv (hf 3 _ _ _ rfl rfl rfl).1 (hf 3 _ _ _ rfl rfl rfl).2
  obtain ⟨kA, kc, kl, rfl, _, _, hk1, hk2, hk3⟩ := open_sl (w := w) (enc := enc) (spare := spare) (held := held) keepC _ 2 16 (t := 33) (e := 61) Try.underlying33 (by kernel_rfl) (by kernel_rfl) (by omega) (fun n cs x hx hx2 => open_keepD hx hx2) (hf 4 _ _ _ rfl rfl rfl).1 (hf 4 _ _ _ rfl rfl rfl).2
  have hrb := reachBytes_lt
  exact ⟨⟨k, m, q, b, kA, kc, kl⟩, rfl, i64_bd wk, i64_bd wm, i64_bd wq, hb, hbl, hk1, by dsimp only; omega⟩
set_option maxRecDepth 100000 in
theorem open_opDv {r : Reach} {b0 : Nat} {v : Value} {d : DataW H} {p : List MemPlace} (hv : Value.okWide Try.prog w r b0 35 v) (h : DataW.Trod enc Try.prog w 0 spare held 35 v d p) (hw : Within 35 (d, p)) :
    ∃ o : OpD, v = .agg #[.int .i64 o.kind, .int .i64 o.file, .int .i64 o.n, .slice o.x.A o.x.l.length o.x.c, .slice o.kA o.K.length o.kc] ∧ o.ok w (fun b => b < w.heap.size) := by
  obtain ⟨cs, rfl, hsz⟩ := okWide_struct Try.underlying35 hv
  obtain ⟨l⟩ := cs
  obtain ⟨n, hn⟩ := h
  obtain ⟨o, e, ho⟩ := open_opD (cs := l) hn hw
  subst e
  exact ⟨o, rfl, ho⟩
set_option maxRecDepth 100000 in
theorem open_opsD {n : Nat} {v : Value} {x : DataW H × List MemPlace} (h : DataW.trod enc Try.prog w 0 spare held n 22 [v] = some x) (hw : Within 22 x) :
    ∃ (A : Option Addr) (c : Nat) (l : List OpD), v = .slice A l.length c ∧ OpsD w (fun b => b < w.heap.size) A l := by
  obtain ⟨A, c, l, rfl, _, _, h3, h4, h5⟩ := open_sl (w := w) (enc := enc) (spare := spare) (held := held) OpD.cells (fun o => o.ok w (fun b => b < w.heap.size)) 5 72 (t := 22) (e := 35) Try.underlying22 (by kernel_rfl) (by kernel_rfl) (by omega) (fun n cs x hx hx2 => open_opD hx hx2) h hw
  refine ⟨A, c, l, rfl, h3, h4, ?_⟩
  have := reachBytes_lt
  omega
end
end Go.Proofs.Ytmdbfhfjaapeoaa
