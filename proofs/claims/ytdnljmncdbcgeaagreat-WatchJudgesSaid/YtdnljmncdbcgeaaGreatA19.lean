/- tenderref22: Put. -/
import Derived.Test.YtdnljmncdbcgeaaGreatA18

namespace Go.Proofs.YtdnljmncdbcgeaaGreat
open Go.RowKit

theorem without_mem {M : List EV} {p : ByteArray} {x : EV} (h : x ∈ withoutE p M) : x ∈ M := (List.mem_filter.1 h).1
theorem mem_insE {x y : EV} {M : List EV} (h : y ∈ insE x M) : y = x ∨ y ∈ M := by
  unfold insE at h
  obtain ⟨z, hz, rfl⟩ := List.mem_map.1 h
  rcases mem_ins.1 hz with rfl | hz
  · exact .inl rfl
  · obtain ⟨q, hq, rfl⟩ := List.mem_map.1 hz
    exact .inr hq
theorem insE_len (x : EV) (M : List EV) : (insE x M).length = M.length + 1 := by
  unfold insE
  rw [List.length_map, ins_len]
  simp [keyE]
/-- the index of the spare one among the first ones -/
def BestE (M : List EV) (i : Nat) (b : Int) : Prop := (b = -1 ∧ spareB ((M.take i).map EV.pl) = none) ∨ ∃ (j : Nat) (hj : j < M.length), b = (j : Int) ∧ j < i ∧ spareB ((M.take i).map EV.pl) = some M[j].pl
theorem BestE.start (M : List EV) : BestE M 0 (-1) := .inl ⟨rfl, rfl⟩
theorem best_snoc {M : List EV} {i : Nat} (hi : i < M.length) : spareB ((M.take (i + 1)).map EV.pl) = match spareB ((M.take i).map EV.pl) with
    | none => if M[i].k = 0 then some M[i].pl else none
    | some y => if M[i].k = 0 ∧ M[i].v < y.2.1 then some M[i].pl else some y := by
  rw [List.take_succ_eq_append_getElem hi, List.map_append, List.map_cons, List.map_nil, spareB_snoc]
  rfl
theorem BestE.keep {M : List EV} {i : Nat} {b : Int} (h : BestE M i b) (hi : i < M.length) (hk : M[i].k ≠ 0 ∨ ∃ (j : Nat) (hj : j < M.length), b = (j : Int) ∧ ¬ M[i].v < M[j].v) : BestE M (i + 1) b := by
  rcases h with ⟨rfl, h⟩ | ⟨j, hj, rfl, hji, h⟩
  · refine .inl ⟨rfl, ?_⟩
    rw [best_snoc hi, h]
    dsimp only
    rcases hk with hk | ⟨j, hj, e, _⟩
    · rw [if_neg hk]
    · omega
  · refine .inr ⟨j, hj, rfl, by omega, ?_⟩
    rw [best_snoc hi, h]
    dsimp only
    rw [if_neg]
    rintro ⟨h1, h2⟩
    rcases hk with hk | ⟨j2, hj2, e, hn⟩
    · exact hk h1
    · obtain rfl : j = j2 := by omega
      exact hn h2
theorem BestE.take {M : List EV} {i : Nat} {b : Int} (h : BestE M i b) (hi : i < M.length) (hk : M[i].k = 0) (h2 : b = -1 ∨ ∃ (j : Nat) (hj : j < M.length), b = (j : Int) ∧ M[i].v < M[j].v) : BestE M (i + 1) (i : Int) := by
  refine .inr ⟨i, hi, rfl, by omega, ?_⟩
  rw [best_snoc hi]
  rcases h with ⟨rfl, h⟩ | ⟨j, hj, rfl, hji, h⟩
  · rw [h]
    dsimp only
    rw [if_pos hk]
  · rw [h]
    dsimp only
    rw [if_pos]
    rcases h2 with h2 | ⟨j2, hj2, e, hn⟩
    · omega
    · obtain rfl : j = j2 := by omega
      exact ⟨hk, hn⟩

/-- entries do not lie where a document's book stands -/
theorem EsR.notBook {w w' : World} {A : Option Addr} {M : List EV} {g : Nat} {u : Int} {v : Value} {t : TypeId} (h : EsR w A M) (hb : Blk w g t #[.int .u64 u, v]) (hv : ∀ q, v ≠ .string q) (hv2 : ∀ q, v ≠ .int .u8 q) (k : Fr (fun x => x = g) w w') : EsR w' A M := by
  have hy : ∀ {A : Option Addr} {l : List UInt8}, By w (fun _ => True) A l → By w (fun b => b ≠ g) A l := fun {A l} h => by
    refine ⟨h.1, fun hn => ?_⟩
    obtain ⟨b, off, e, hz, hlt, hc⟩ := h.2 hn
    refine ⟨b, off, e, fun eb => ?_, hlt, hc⟩
    subst eb
    rcases l with _ | ⟨x, l⟩
    · simp at hn
    · have h1 := hc 0 (bv x) rfl
      rw [hb.cell, Nat.add_zero] at h1
      rcases off with _ | _ | off
      · simp [bv] at h1
      · simp [bv] at h1; exact hv2 _ h1
      · simp [bv] at h1
  have hr : Rd w (fun b => b ≠ g) 4 A M.length (M.flatMap EV.cells) := by
    refine ⟨h.rd.1, fun hn => ?_⟩
    obtain ⟨b, off, e, hz, hlt, hc⟩ := h.rd.2 hn
    refine ⟨b, off, e, fun eb => ?_, hlt, hc⟩
    subst eb
    rcases M with _ | ⟨x, M⟩
    · simp at hn
    · have h1 := hc 0 (.string x.p) rfl
      rw [hb.cell, Nat.add_zero] at h1
      rcases off with _ | _ | off
      · simp at h1
      · simp at h1; exact hv _ h1
      · simp at h1
  exact ⟨(hr.fr k (fun b _ hz e => hz e)).mono (fun _ _ _ => trivial), fun x hx => ⟨((hy (h.ok x hx).1).fr k (fun b _ hz e => hz e)).mono (fun _ _ _ => trivial), (h.ok x hx).2⟩, h.len⟩


set_option maxRecDepth 100000 in
set_option maxHeartbeats 4000000 in
theorem refPut22_any (A : Option Addr) (c : Nat) (M : List EV) (s : Int) (x : EV) (w : World) (h : EsR w A M) (hx : x.x.ok w (fun _ => True)) (hn : x.x.l.length ≤ 140737488355328) (hv : 0 ≤ x.v ∧ x.v < 18446744073709551616) (hp : x.p.size ≤ 1048576) (hok : BookOk (M.map EV.pl)) :
    Calls Tryz.prog 51 #[.agg #[.int .u64 s, .slice A M.length c], .agg #[.string x.p, .int .u64 x.v, .int .i64 x.k, .slice x.x.A x.x.l.length x.x.c]] w fun e w' => (∃ (A' : Option Addr) (c' : Nat) (M' : List EV), e = .returned (.tuple #[.agg #[.int .u64 s, .slice A' M'.length c'], .int .i64 (putP (M.map EV.pl) (tl x.p) x.ep).2]) ∧ Hid (M'.map EV.pl = (putP (M.map EV.pl) (tl x.p) x.ep).1) ∧ EsR w' A' M') ∧ Below w.heap.size w w' := by
  obtain ⟨R, hR⟩ : ∃ R, R = putP (M.map EV.pl) (tl x.p) x.ep := ⟨_, rfl⟩
  rw [← hR]
  obtain ⟨T, E⟩ := R
  dsimp only
  have HR := Lib.hid hR
  have hW : Below w.heap.size w (((w.alloc (.cells #[.int .u64 s, .slice A M.length c] 50)).alloc (.cells #[.string x.p, .int .u64 x.v, .int .i64 x.k, .slice x.x.A x.x.l.length x.x.c] 59)).alloc (.cells #[.int .u64 0, .slice none 0 0] 50)) := (((Below.refl _ _).alloc (Nat.le_refl _) _).alloc (by simp) _).alloc (by simp; omega) _
  have y0 : Blk (((w.alloc (.cells #[.int .u64 s, .slice A M.length c] 50)).alloc (.cells #[.string x.p, .int .u64 x.v, .int .i64 x.k, .slice x.x.A x.x.l.length x.x.c] 59)).alloc (.cells #[.int .u64 0, .slice none 0 0] 50)) w.heap.size 50 #[.int .u64 s, .slice A M.length c] := ((Blk.new w 50 #[.int .u64 s, .slice A M.length c]).below ((Below.refl _ _).alloc (Nat.le_refl _) _)).below ((Below.refl _ _).alloc (Nat.le_refl _) _)
  have y1 : Blk (((w.alloc (.cells #[.int .u64 s, .slice A M.length c] 50)).alloc (.cells #[.string x.p, .int .u64 x.v, .int .i64 x.k, .slice x.x.A x.x.l.length x.x.c] 59)).alloc (.cells #[.int .u64 0, .slice none 0 0] 50)) (w.heap.size + 1) 59 #[.string x.p, .int .u64 x.v, .int .i64 x.k, .slice x.x.A x.x.l.length x.x.c] := by
    have := (Blk.new (w.alloc (.cells #[.int .u64 s, .slice A M.length c] 50)) 59 #[.string x.p, .int .u64 x.v, .int .i64 x.k, .slice x.x.A x.x.l.length x.x.c]).below ((Below.refl _ _).alloc (Nat.le_refl _) (.cells #[.int .u64 0, .slice none 0 0] 50))
    rwa [show (w.alloc (.cells #[.int .u64 s, .slice A M.length c] 50)).heap.size = w.heap.size + 1 by simp] at this
  have y2 : Blk (((w.alloc (.cells #[.int .u64 s, .slice A M.length c] 50)).alloc (.cells #[.string x.p, .int .u64 x.v, .int .i64 x.k, .slice x.x.A x.x.l.length x.x.c] 59)).alloc (.cells #[.int .u64 0, .slice none 0 0] 50)) (w.heap.size + 2) 50 #[.int .u64 0, .slice none 0 0] := by
    have := Blk.new ((w.alloc (.cells #[.int .u64 s, .slice A M.length c] 50)).alloc (.cells #[.string x.p, .int .u64 x.v, .int .i64 x.k, .slice x.x.A x.x.l.length x.x.c] 59)) 50 #[.int .u64 0, .slice none 0 0]
    rwa [show ((w.alloc (.cells #[.int .u64 s, .slice A M.length c] 50)).alloc (.cells #[.string x.p, .int .u64 x.v, .int .i64 x.k, .slice x.x.A x.x.l.length x.x.c] 59)).heap.size = w.heap.size + 2 by simp] at this
  have HE := Lib.hid h
  have HXO := Lib.hid hx
  have HOK := Lib.hid hok
  have hMl : M.length ≤ 256 := by have := hok.len; simpa using this
  have HMP : Hid (∀ y ∈ M, y.p.size ≤ 1048576) := Lib.hid (fun y hy => by
    have := goodB_len (userB_good (checkP_good (hok.good y.pl (List.mem_map.2 ⟨y, hy, rfl⟩))).1)
    have h2 := tl_len y.p
    have h3 : y.pl.1 = tl y.p := rfl
    rw [h3] at this
    omega)
  obtain ⟨C, hC⟩ : ∃ C, C = checkP (tl x.p) x.ep := ⟨_, rfl⟩
  have HCK := Lib.hid (fun W => refEntryCheck_any x.p x.v x.k x.x.A x.x.l.length x.x.c W (by omega) hv hn)
  rw [show checkE (tl x.p) x.v x.k x.x.l.length = C from hC.symm] at HCK
  have HC := Lib.hid hC
  clear h hx hR hC hok
  go_enter Tryz.func51, Tryz.ntmps51
  go_upto_region 1 with (fail)
  generalize (((w.alloc (.cells #[.int .u64 s, .slice A M.length c] 50)).alloc (.cells #[.string x.p, .int .u64 x.v, .int .i64 x.k, .slice x.x.A x.x.l.length x.x.c] 59)).alloc (.cells #[.int .u64 0, .slice none 0 0] 50)) = w1 at *
  have q0 := y1.cell 0
  have q1 := y1.cell 1
  have q2 := y1.cell 2
  have q3 := y1.cell 3
  simp only [List.getElem?_toArray, List.getElem?_cons_zero, List.getElem?_cons_succ] at q0 q1 q2 q3
  go_wp2_with fail
  refine (HCK.out _).mono ?_
  rintro e w2 ⟨rfl, hb2⟩
  replace y0 := y0.below hb2
  replace y1 := y1.below hb2
  replace y2 := y2.below hb2
  replace hW := hW.trans (hb2.mono hW.size)
  clear HCK hb2 q0 q1 q2 q3
  by_cases hC0 : C = 0
  · have hCb : (C != 0) = false := by simp [hC0]
    have HC0 := Lib.hid hC0
    clear hC0
    have HR1 : Hid ((T, E) = if x.v ≤ ((getR (M.map EV.pl) (tl x.p)).map (·.1)).getD 0 then (M.map EV.pl, (31 : Int)) else if (getR (M.map EV.pl) (tl x.p)).isNone = true ∧ 256 ≤ (M.map EV.pl).length then ((spareB (M.map EV.pl)).elim (M.map EV.pl, (24 : Int)) fun y => (putR (withoutR (M.map EV.pl) y.1) (tl x.p) x.ep, (0 : Int))) else (putR (M.map EV.pl) (tl x.p) x.ep, (0 : Int))) := Lib.hid (by
      rw [HR.out]
      unfold putP putB
      rw [if_neg (by rw [← HC.out, HC0.out]; simp)]
      rfl)
    rw [← find_ver, List.length_map] at HR1
    clear HR HC HC0
    have HG := Lib.hid (refGet22_any A c M s x.p w2 (HE.out.below hW))
    have p0 := y0.cell 0
    have p1 := y0.cell 1
    simp only [List.getElem?_toArray, List.getElem?_cons_zero, List.getElem?_cons_succ] at p0 p1
    have q0 := y1.cell 0
    simp only [List.getElem?_toArray, List.getElem?_cons_zero] at q0
    go_wp2_with fail
    refine HG.out.mono ?_
    rintro e w3 ⟨⟨o, rfl, ho⟩, hb3⟩
    rw [← ho.out] at HR1
    replace y0 := y0.below hb3
    replace y1 := y1.below hb3
    replace y2 := y2.below hb3
    replace hW := hW.trans (hb3.mono hW.size)
    have hba : Below w3.heap.size w3 (w3.alloc (.cells #[.string o.p, .int .u64 o.v, .int .i64 o.k, .slice o.x.A o.x.l.length o.x.c] 59)) := (Below.refl _ _).alloc (Nat.le_refl _) _
    have y3 := Blk.new w3 59 #[.string o.p, .int .u64 o.v, .int .i64 o.k, .slice o.x.A o.x.l.length o.x.c]
    replace y0 := y0.below hba
    replace y1 := y1.below hba
    replace y2 := y2.below hba
    replace hW := hW.trans (hba.mono hW.size)
    clear p0 p1 q0 hb3 HG ho hCb
    go_upto_region 5 with (fail)
    generalize w3.alloc (.cells #[.string o.p, .int .u64 o.v, .int .i64 o.k, .slice o.x.A o.x.l.length o.x.c] 59) = w4 at *
    have r1 := y3.cell 1
    have q1 := y1.cell 1
    simp only [List.getElem?_toArray, List.getElem?_cons_zero, List.getElem?_cons_succ] at r1 q1
    clear hba y3
    by_cases hov : x.v ≤ o.v
    · have hod : decide (x.v ≤ o.v) = true := decide_eq_true hov
      obtain ⟨hT, rfl⟩ : T = M.map EV.pl ∧ E = 31 := by
        have := HR1.out
        rw [if_pos hov] at this
        simpa using this
      have HT : Hid (M.map EV.pl = T) := Lib.hid hT.symm
      clear HR1 hT
      have p0 := y0.cell 0
      have p1 := y0.cell 1
      simp only [List.getElem?_toArray, List.getElem?_cons_zero, List.getElem?_cons_succ] at p0 p1
      have r0 := y2.cell 0
      have r1 := y2.cell 1
      simp only [List.getElem?_toArray, List.getElem?_cons_zero, List.getElem?_cons_succ] at r0 r1
      have fr := fun o => y2.frozen o
      have K1 := Lib.hid (HE.out.below hW)
      have HY := Lib.hid y2
      go_wp2_with fail
      have kR : Fr (fun x => x = w.heap.size + 2) w4 ((w4.setCell ⟨w.heap.size + 2, 0, none⟩ (.int .u64 s)).setCell ⟨w.heap.size + 2, 1, none⟩ (.slice A M.length c)) := ((Fr.refl (fun x => x = w.heap.size + 2) w4).setAt (w.heap.size + 2) _ rfl _).setAt (w.heap.size + 2) _ rfl _
      have yR := (y2.set_ 0 (.int .u64 s)).set_ 1 (.slice A M.length c)
      simp only [List.setIfInBounds_toArray, List.set_cons_zero, List.set_cons_succ] at yR
      have hwR : Below w.heap.size w ((w4.setCell ⟨w.heap.size + 2, 0, none⟩ (.int .u64 s)).setCell ⟨w.heap.size + 2, 1, none⟩ (.slice A M.length c)) := hW.trans (kR.below (B := w.heap.size) hW.size (fun k hk e => by omega))
      generalize ((w4.setCell ⟨w.heap.size + 2, 0, none⟩ (.int .u64 s)).setCell ⟨w.heap.size + 2, 1, none⟩ (.slice A M.length c)) = wR at *
      have s0 := yR.cell 0
      have s1 := yR.cell 1
      simp only [List.getElem?_toArray, List.getElem?_cons_zero, List.getElem?_cons_succ] at s0 s1
      refine bodyPost_ret (v := .tuple #[.agg #[.int .u64 s, .slice A M.length c], .int .i64 31]) (by simp [results, Tryz.results51, go_sem, s0, s1]) rfl ?_
      exact ⟨⟨A, c, M, rfl, HT.out, K1.out.notBook HY.out (by simp) (by simp) kR⟩, hwR⟩
    · have hod : decide (x.v ≤ o.v) = false := decide_eq_false hov
      have HR2 : Hid ((T, E) = if (getR (M.map EV.pl) (tl x.p)).isNone = true ∧ 256 ≤ M.length then ((spareB (M.map EV.pl)).elim (M.map EV.pl, (24 : Int)) fun y => (putR (withoutR (M.map EV.pl) y.1) (tl x.p) x.ep, (0 : Int))) else (putR (M.map EV.pl) (tl x.p) x.ep, (0 : Int))) := Lib.hid (by rw [HR1.out, if_neg hov])
      clear HR1
      have p0 := y0.cell 0
      have p1 := y0.cell 1
      simp only [List.getElem?_toArray, List.getElem?_cons_zero, List.getElem?_cons_succ] at p0 p1
      have q0 := y1.cell 0
      simp only [List.getElem?_toArray, List.getElem?_cons_zero] at q0
      have HWO := Lib.hid (refWithout22_any A c M x.p w4 (HE.out.below hW))
      go_wp2_with fail
      refine HWO.out.mono ?_
      rintro e w5 ⟨⟨A1, c1, M1, rfl, hM1, ho1⟩, hb5⟩
      replace y0 := y0.below hb5
      replace y1 := y1.below hb5
      replace y2 := y2.below hb5
      replace hW := hW.trans (hb5.mono hW.size)
      have hM1l : M1.length ≤ M.length := by rw [hM1.out]; exact without_lenE _ _
      have HE1 : Hid (EsR w5 A1 M1) := Lib.hid (ho1.esr (fun y hy => by rw [hM1.out] at hy; exact (HE.out.below hW).ok y (without_mem hy)) (by omega))
      have HP1 : Hid (∀ y ∈ M1, y.p.size ≤ 1048576) := Lib.hid (fun y hy => by rw [hM1.out] at hy; exact HMP.out y (without_mem hy))
      have HM1 := Lib.hid hM1.out
      clear HWO ho1 hb5 hM1 p0 p1 q0 q1 r1 hod
      by_cases hlen : 256 ≤ M1.length
      · have hl2 : decide ((256 : Int) ≤ (M1.length : Int)) = true := decide_eq_true (by omega)
        have hgn : getR (M.map EV.pl) (tl x.p) = none := by
          rcases hg : getR (M.map EV.pl) (tl x.p) with _ | z
          · rfl
          · have h1 := HOK.out.sort.without_len hg
            rw [← pl_without, ← HM1.out] at h1
            simp at h1
            omega
        have HPM : Hid (M1.map EV.pl = M.map EV.pl) := Lib.hid (by rw [HM1.out, pl_without, without_self hgn])
        have HR3 : Hid ((T, E) = (spareB (M1.map EV.pl)).elim (M.map EV.pl, (24 : Int)) fun y => (putR (withoutR (M1.map EV.pl) y.1) (tl x.p) x.ep, (0 : Int))) := Lib.hid (by
          rw [HR2.out, if_pos ⟨by rw [hgn]; rfl, by omega⟩, HPM.out])
        have HGN := Lib.hid hgn
        clear HR2 hgn
        go_wp2_with fail
        have hud : undef = Value.tuple #[] := rfl
        go_loopw [9, 10] (fun bv iv wr => ∃ (i : Nat) (b : Int), i ≤ M1.length ∧ iv = .int .i64 (i : Int) ∧ bv = .int .i64 b ∧ BestE M1 i b ∧ Below w5.heap.size w5 wr) (fun _ iv _ => M1.length - (intOf iv).toNat)
        case atStart => exact ⟨0, -1, Nat.zero_le _, rfl, rfl, BestE.start M1, Below.refl _ _⟩
        case round =>
          obtain ⟨i, b, hi, rfl, rfl, hbst, hb⟩ := hrel
          by_cases hlt : i < M1.length
          · obtain ⟨bk, off, hA, hbb, c0, c1', c2, c3⟩ := HE1.out.at_ hlt
            have HX : Hid (∀ W, Below wr.heap.size wr W → W.cell? ⟨bk, off + i * 4, none⟩ = some (.string M1[i].p) ∧ W.cell? ⟨bk, off + i * 4 + 1, none⟩ = some (.int .u64 M1[i].v) ∧ W.cell? ⟨bk, off + i * 4 + 2, none⟩ = some (.int .i64 M1[i].k) ∧ True) := Lib.hid (fun W hW => by
              have hW2 := hb.trans (hW.mono hb.size)
              rw [hW2.cell hbb, hW2.cell hbb, hW2.cell hbb]
              exact ⟨c0, c1', c2, trivial⟩)
            obtain ⟨y, hy⟩ : ∃ y, y = M1[i] := ⟨_, rfl⟩
            have HYI := Lib.hid hy
            rw [← hy] at HX
            have HBST := Lib.hid hbst
            subst hA
            clear c0 c1' c2 c3 hy hbst
            go_upto_region 13 with (fail)
            by_cases hk : y.k = 0
            · have hkb : (y.k == 0) = true := by simpa using hk
              have HK := Lib.hid hk
              clear hk
              rcases HBST.out with ⟨rfl, hbn⟩ | ⟨j, hj, rfl, hji, hbj⟩
              · have HJ : Hid True := trivial
                have hb1 : decide ((-1 : Int) < 0) = true := rfl
                refine wp_region_b 24 (by kernel_rfl) (by kernel_rfl) ?_
                simp only [List.take_succ_cons, List.take_zero, List.drop_succ_cons, List.drop_zero]
                refine lb_move _ (by kernel_rfl) rfl ⟨_, (by ((try simp [go_sem]); (try rfl); done)), _, (by (simp only [Act.put, List.setIfInBounds_toArray, List.set_cons_zero, List.set_cons_succ]; rfl)), ?_⟩
                refine lb_move _ (by kernel_rfl) rfl ⟨_, (by ((try simp [go_sem]); (try rfl); done)), _, (by (simp only [Act.put, List.setIfInBounds_toArray, List.set_cons_zero, List.set_cons_succ]; rfl)), ?_⟩
                refine lb_val (by kernel_rfl) ⟨_, (by (intro w' hC; clear hC; (try go_simp); (try with_reducible rfl); done)), _, (by (simp only [Act.put, List.setIfInBounds_toArray, List.set_cons_zero, List.set_cons_succ]; rfl)), ?_⟩
                refine lb_val (by kernel_rfl) ⟨_, (by (intro w' hC; clear hC; (try go_simp); (try with_reducible rfl); done)), _, (by (simp only [Act.put, List.setIfInBounds_toArray, List.set_cons_zero, List.set_cons_succ]; rfl)), ?_⟩
                refine lb_val (by kernel_rfl) ⟨_, (by (intro w' hC; clear hC; (try go_simp); (try with_reducible rfl); done)), _, (by (simp only [Act.put, List.setIfInBounds_toArray, List.set_cons_zero, List.set_cons_succ]; rfl)), ?_⟩
                refine lb_val (by kernel_rfl) ⟨_, (by (intro w' hC; (have ⟨_, _, c2, _⟩ := HX.out w' hC); clear hC; (try go_simp); (try with_reducible rfl); done)), _, (by (simp only [Act.put, List.setIfInBounds_toArray, List.set_cons_zero, List.set_cons_succ]; rfl)), ?_⟩
                refine lb_val (by kernel_rfl) ⟨_, (by (intro w' hC; clear hC; (try go_simp); (try with_reducible rfl); done)), _, (by (simp only [Act.put, List.setIfInBounds_toArray, List.set_cons_zero, List.set_cons_succ]; rfl)), ?_⟩
                refine lb_move _ (by kernel_rfl) rfl ⟨_, (by ((try simp [go_sem]); (try rfl); done)), _, (by (simp only [Act.put, List.setIfInBounds_toArray, List.set_cons_zero, List.set_cons_succ]; rfl)), ?_⟩
                first | (refine lb_skip (by rfl) ⟨_, (by (simp only [Act.put, List.setIfInBounds_toArray, List.set_cons_zero, List.set_cons_succ]; rfl)), ?_⟩) | (refine lb_move _ (by kernel_rfl) rfl ⟨_, (by ((try simp [go_sem]); (try rfl); done)), _, (by (simp only [Act.put, List.setIfInBounds_toArray, List.set_cons_zero, List.set_cons_succ]; rfl)), ?_⟩)
                first | (refine lb_skip (by rfl) ⟨_, (by (simp only [Act.put, List.setIfInBounds_toArray, List.set_cons_zero, List.set_cons_succ]; rfl)), ?_⟩) | (refine lb_val (by kernel_rfl) ⟨_, (by (intro w' hC; clear hC; (try go_simp); (try with_reducible rfl); done)), _, (by (simp only [Act.put, List.setIfInBounds_toArray, List.set_cons_zero, List.set_cons_succ]; rfl)), ?_⟩)
                first | (refine lb_skip (by rfl) ⟨_, (by (simp only [Act.put, List.setIfInBounds_toArray, List.set_cons_zero, List.set_cons_succ]; rfl)), ?_⟩) | (refine lb_move _ (by kernel_rfl) rfl ⟨_, (by ((try simp [go_sem]); (try rfl); done)), _, (by (simp only [Act.put, List.setIfInBounds_toArray, List.set_cons_zero, List.set_cons_succ]; rfl)), ?_⟩)
                first | (refine lb_skip (by rfl) ⟨_, (by (simp only [Act.put, List.setIfInBounds_toArray, List.set_cons_zero, List.set_cons_succ]; rfl)), ?_⟩) | (refine lb_move _ (by kernel_rfl) rfl ⟨_, (by ((try simp [go_sem]); (try rfl); done)), _, (by (simp only [Act.put, List.setIfInBounds_toArray, List.set_cons_zero, List.set_cons_succ]; rfl)), ?_⟩)
                first | (refine lb_skip (by rfl) ⟨_, (by (simp only [Act.put, List.setIfInBounds_toArray, List.set_cons_zero, List.set_cons_succ]; rfl)), ?_⟩) | (refine lb_move _ (by kernel_rfl) rfl ⟨_, (by ((try simp [go_sem]); (try rfl); done)), _, (by (simp only [Act.put, List.setIfInBounds_toArray, List.set_cons_zero, List.set_cons_succ]; rfl)), ?_⟩)
                first | (refine lb_skip (by rfl) ⟨_, (by (simp only [Act.put, List.setIfInBounds_toArray, List.set_cons_zero, List.set_cons_succ]; rfl)), ?_⟩) | (refine lb_val (by kernel_rfl) ⟨_, (by (intro w' hC; clear hC; (try go_simp); (try with_reducible rfl); done)), _, (by (simp only [Act.put, List.setIfInBounds_toArray, List.set_cons_zero, List.set_cons_succ]; rfl)), ?_⟩)
                first | (refine lb_skip (by rfl) ⟨_, (by (simp only [Act.put, List.setIfInBounds_toArray, List.set_cons_zero, List.set_cons_succ]; rfl)), ?_⟩) | (refine lb_val (by kernel_rfl) ⟨_, (by (intro w' hC; clear hC; (try go_simp); (try with_reducible rfl); done)), _, (by (simp only [Act.put, List.setIfInBounds_toArray, List.set_cons_zero, List.set_cons_succ]; rfl)), ?_⟩)
                first | (refine lb_skip (by rfl) ⟨_, (by (simp only [Act.put, List.setIfInBounds_toArray, List.set_cons_zero, List.set_cons_succ]; rfl)), ?_⟩) | (refine lb_val (by kernel_rfl) ⟨_, (by (intro w' hC; (have ⟨_, c1, _, _⟩ := HX.out w' hC); clear hC; (try go_simp); (try with_reducible rfl); done)), _, (by (simp only [Act.put, List.setIfInBounds_toArray, List.set_cons_zero, List.set_cons_succ]; rfl)), ?_⟩)
                first | (refine lb_skip (by rfl) ⟨_, (by (simp only [Act.put, List.setIfInBounds_toArray, List.set_cons_zero, List.set_cons_succ]; rfl)), ?_⟩) | (refine lb_move _ (by kernel_rfl) rfl ⟨_, (by ((try simp [go_sem]); (try rfl); done)), _, (by (simp only [Act.put, List.setIfInBounds_toArray, List.set_cons_zero, List.set_cons_succ]; rfl)), ?_⟩)
                first | (refine lb_skip (by rfl) ⟨_, (by (simp only [Act.put, List.setIfInBounds_toArray, List.set_cons_zero, List.set_cons_succ]; rfl)), ?_⟩) | (refine lb_move _ (by kernel_rfl) rfl ⟨_, (by ((try simp [go_sem]); (try rfl); done)), _, (by (simp only [Act.put, List.setIfInBounds_toArray, List.set_cons_zero, List.set_cons_succ]; rfl)), ?_⟩)
                first | (refine lb_skip (by rfl) ⟨_, (by (simp only [Act.put, List.setIfInBounds_toArray, List.set_cons_zero, List.set_cons_succ]; rfl)), ?_⟩) | (refine lb_val (by kernel_rfl) ⟨_, (by (intro w' hC; clear hC; (try go_simp); (try with_reducible rfl); done)), _, (by (simp only [Act.put, List.setIfInBounds_toArray, List.set_cons_zero, List.set_cons_succ]; rfl)), ?_⟩)
                first | (refine lb_skip (by rfl) ⟨_, (by (simp only [Act.put, List.setIfInBounds_toArray, List.set_cons_zero, List.set_cons_succ]; rfl)), ?_⟩) | (refine lb_val (by kernel_rfl) ⟨_, (by (intro w' hC; clear hC; (try go_simp); (try with_reducible rfl); done)), _, (by (simp only [Act.put, List.setIfInBounds_toArray, List.set_cons_zero, List.set_cons_succ]; rfl)), ?_⟩)
                first | (refine lb_skip (by rfl) ⟨_, (by (simp only [Act.put, List.setIfInBounds_toArray, List.set_cons_zero, List.set_cons_succ]; rfl)), ?_⟩) | (refine lb_val (by kernel_rfl) ⟨_, (by (intro w' hC; (have ⟨_, d1, _, _⟩ := HJ.out w' hC); clear hC; (try go_simp); (try with_reducible rfl); done)), _, (by (simp only [Act.put, List.setIfInBounds_toArray, List.set_cons_zero, List.set_cons_succ]; rfl)), ?_⟩)
                first | (refine lb_skip (by rfl) ⟨_, (by (simp only [Act.put, List.setIfInBounds_toArray, List.set_cons_zero, List.set_cons_succ]; rfl)), ?_⟩) | (refine lb_val (by kernel_rfl) ⟨_, (by (intro w' hC; clear hC; (try go_simp); (try with_reducible rfl); done)), _, (by (simp only [Act.put, List.setIfInBounds_toArray, List.set_cons_zero, List.set_cons_succ]; rfl)), ?_⟩)
                first | (refine lb_skip (by rfl) ⟨_, (by (simp only [Act.put, List.setIfInBounds_toArray, List.set_cons_zero, List.set_cons_succ]; rfl)), ?_⟩) | (refine lb_val (by kernel_rfl) ⟨_, (by (intro w' hC; clear hC; (try go_simp); (try with_reducible rfl); done)), _, (by (simp only [Act.put, List.setIfInBounds_toArray, List.set_cons_zero, List.set_cons_succ]; rfl)), ?_⟩)
                refine lb_val (by kernel_rfl) ⟨_, (by (intro w' hC; clear hC; (try go_simp); (try with_reducible rfl); done)), _, (by (simp only [Act.put, List.setIfInBounds_toArray, List.set_cons_zero, List.set_cons_succ]; rfl)), ?_⟩
                refine .nil ?_
                intro w6 hb6
                have hb' := hb.trans (hb6.mono hb.size)
                have HBS : Hid (BestE M1 (i + 1) (i : Int)) := Lib.hid (HBST.out.take hlt (by rw [← HYI.out]; exact HK.out) (.inl rfl))
                clear hb6 HX
                go_wp2_with fail
                go_roundw
                case rel => exact ⟨i + 1, (i : Int), hlt, by go_num, rfl, HBS.out, hb'⟩
                case measure => simp [intOf]; omega
              · obtain ⟨z, hz⟩ : ∃ z, z = M1[j] := ⟨_, rfl⟩
                have HZI := Lib.hid hz
                have HJ : Hid (∀ W, Below wr.heap.size wr W → W.cell? ⟨bk, off + j * 4, none⟩ = some (.string z.p) ∧ W.cell? ⟨bk, off + j * 4 + 1, none⟩ = some (.int .u64 z.v) ∧ W.cell? ⟨bk, off + j * 4 + 2, none⟩ = some (.int .i64 z.k) ∧ True) := Lib.hid (fun W hW => by
                  have hW2 := hb.trans (hW.mono hb.size)
                  obtain ⟨bk', off', hA', hbb', e0, e1, e2, _⟩ := HE1.out.at_ hj
                  injection hA' with hA'
                  injection hA' with hA1 hA2
                  subst hA1 hA2
                  rw [hW2.cell hbb', hW2.cell hbb', hW2.cell hbb', hz]
                  exact ⟨e0, e1, e2, trivial⟩)
                have hb1 : decide ((j : Int) < 0) = false := decide_eq_false (by omega)
                clear hz hbj
                by_cases hyz : y.v < z.v
                · have hyd : decide (y.v < z.v) = true := decide_eq_true hyz
                  refine wp_region_b 24 (by kernel_rfl) (by kernel_rfl) ?_
                  simp only [List.take_succ_cons, List.take_zero, List.drop_succ_cons, List.drop_zero]
                  refine lb_move _ (by kernel_rfl) rfl ⟨_, (by ((try simp [go_sem]); (try rfl); done)), _, (by (simp only [Act.put, List.setIfInBounds_toArray, List.set_cons_zero, List.set_cons_succ]; rfl)), ?_⟩
                  refine lb_move _ (by kernel_rfl) rfl ⟨_, (by ((try simp [go_sem]); (try rfl); done)), _, (by (simp only [Act.put, List.setIfInBounds_toArray, List.set_cons_zero, List.set_cons_succ]; rfl)), ?_⟩
                  refine lb_val (by kernel_rfl) ⟨_, (by (intro w' hC; clear hC; (try go_simp); (try with_reducible rfl); done)), _, (by (simp only [Act.put, List.setIfInBounds_toArray, List.set_cons_zero, List.set_cons_succ]; rfl)), ?_⟩
                  refine lb_val (by kernel_rfl) ⟨_, (by (intro w' hC; clear hC; (try go_simp); (try with_reducible rfl); done)), _, (by (simp only [Act.put, List.setIfInBounds_toArray, List.set_cons_zero, List.set_cons_succ]; rfl)), ?_⟩
                  refine lb_val (by kernel_rfl) ⟨_, (by (intro w' hC; clear hC; (try go_simp); (try with_reducible rfl); done)), _, (by (simp only [Act.put, List.setIfInBounds_toArray, List.set_cons_zero, List.set_cons_succ]; rfl)), ?_⟩
                  refine lb_val (by kernel_rfl) ⟨_, (by (intro w' hC; (have ⟨_, _, c2, _⟩ := HX.out w' hC); clear hC; (try go_simp); (try with_reducible rfl); done)), _, (by (simp only [Act.put, List.setIfInBounds_toArray, List.set_cons_zero, List.set_cons_succ]; rfl)), ?_⟩
                  refine lb_val (by kernel_rfl) ⟨_, (by (intro w' hC; clear hC; (try go_simp); (try with_reducible rfl); done)), _, (by (simp only [Act.put, List.setIfInBounds_toArray, List.set_cons_zero, List.set_cons_succ]; rfl)), ?_⟩
                  refine lb_move _ (by kernel_rfl) rfl ⟨_, (by ((try simp [go_sem]); (try rfl); done)), _, (by (simp only [Act.put, List.setIfInBounds_toArray, List.set_cons_zero, List.set_cons_succ]; rfl)), ?_⟩
                  first | (refine lb_skip (by rfl) ⟨_, (by (simp only [Act.put, List.setIfInBounds_toArray, List.set_cons_zero, List.set_cons_succ]; rfl)), ?_⟩) | (refine lb_move _ (by kernel_rfl) rfl ⟨_, (by ((try simp [go_sem]); (try rfl); done)), _, (by (simp only [Act.put, List.setIfInBounds_toArray, List.set_cons_zero, List.set_cons_succ]; rfl)), ?_⟩)
                  first | (refine lb_skip (by rfl) ⟨_, (by (simp only [Act.put, List.setIfInBounds_toArray, List.set_cons_zero, List.set_cons_succ]; rfl)), ?_⟩) | (refine lb_val (by kernel_rfl) ⟨_, (by (intro w' hC; clear hC; (try go_simp); (try with_reducible rfl); done)), _, (by (simp only [Act.put, List.setIfInBounds_toArray, List.set_cons_zero, List.set_cons_succ]; rfl)), ?_⟩)
                  first | (refine lb_skip (by rfl) ⟨_, (by (simp only [Act.put, List.setIfInBounds_toArray, List.set_cons_zero, List.set_cons_succ]; rfl)), ?_⟩) | (refine lb_move _ (by kernel_rfl) rfl ⟨_, (by ((try simp [go_sem]); (try rfl); done)), _, (by (simp only [Act.put, List.setIfInBounds_toArray, List.set_cons_zero, List.set_cons_succ]; rfl)), ?_⟩)
                  first | (refine lb_skip (by rfl) ⟨_, (by (simp only [Act.put, List.setIfInBounds_toArray, List.set_cons_zero, List.set_cons_succ]; rfl)), ?_⟩) | (refine lb_move _ (by kernel_rfl) rfl ⟨_, (by ((try simp [go_sem]); (try rfl); done)), _, (by (simp only [Act.put, List.setIfInBounds_toArray, List.set_cons_zero, List.set_cons_succ]; rfl)), ?_⟩)
                  first | (refine lb_skip (by rfl) ⟨_, (by (simp only [Act.put, List.setIfInBounds_toArray, List.set_cons_zero, List.set_cons_succ]; rfl)), ?_⟩) | (refine lb_move _ (by kernel_rfl) rfl ⟨_, (by ((try simp [go_sem]); (try rfl); done)), _, (by (simp only [Act.put, List.setIfInBounds_toArray, List.set_cons_zero, List.set_cons_succ]; rfl)), ?_⟩)
                  first | (refine lb_skip (by rfl) ⟨_, (by (simp only [Act.put, List.setIfInBounds_toArray, List.set_cons_zero, List.set_cons_succ]; rfl)), ?_⟩) | (refine lb_val (by kernel_rfl) ⟨_, (by (intro w' hC; clear hC; (try go_simp); (try with_reducible rfl); done)), _, (by (simp only [Act.put, List.setIfInBounds_toArray, List.set_cons_zero, List.set_cons_succ]; rfl)), ?_⟩)
                  first | (refine lb_skip (by rfl) ⟨_, (by (simp only [Act.put, List.setIfInBounds_toArray, List.set_cons_zero, List.set_cons_succ]; rfl)), ?_⟩) | (refine lb_val (by kernel_rfl) ⟨_, (by (intro w' hC; clear hC; (try go_simp); (try with_reducible rfl); done)), _, (by (simp only [Act.put, List.setIfInBounds_toArray, List.set_cons_zero, List.set_cons_succ]; rfl)), ?_⟩)
                  first | (refine lb_skip (by rfl) ⟨_, (by (simp only [Act.put, List.setIfInBounds_toArray, List.set_cons_zero, List.set_cons_succ]; rfl)), ?_⟩) | (refine lb_val (by kernel_rfl) ⟨_, (by (intro w' hC; (have ⟨_, c1, _, _⟩ := HX.out w' hC); clear hC; (try go_simp); (try with_reducible rfl); done)), _, (by (simp only [Act.put, List.setIfInBounds_toArray, List.set_cons_zero, List.set_cons_succ]; rfl)), ?_⟩)
                  first | (refine lb_skip (by rfl) ⟨_, (by (simp only [Act.put, List.setIfInBounds_toArray, List.set_cons_zero, List.set_cons_succ]; rfl)), ?_⟩) | (refine lb_move _ (by kernel_rfl) rfl ⟨_, (by ((try simp [go_sem]); (try rfl); done)), _, (by (simp only [Act.put, List.setIfInBounds_toArray, List.set_cons_zero, List.set_cons_succ]; rfl)), ?_⟩)
                  first | (refine lb_skip (by rfl) ⟨_, (by (simp only [Act.put, List.setIfInBounds_toArray, List.set_cons_zero, List.set_cons_succ]; rfl)), ?_⟩) | (refine lb_move _ (by kernel_rfl) rfl ⟨_, (by ((try simp [go_sem]); (try rfl); done)), _, (by (simp only [Act.put, List.setIfInBounds_toArray, List.set_cons_zero, List.set_cons_succ]; rfl)), ?_⟩)
                  first | (refine lb_skip (by rfl) ⟨_, (by (simp only [Act.put, List.setIfInBounds_toArray, List.set_cons_zero, List.set_cons_succ]; rfl)), ?_⟩) | (refine lb_val (by kernel_rfl) ⟨_, (by (intro w' hC; clear hC; (try go_simp); (try with_reducible rfl); done)), _, (by (simp only [Act.put, List.setIfInBounds_toArray, List.set_cons_zero, List.set_cons_succ]; rfl)), ?_⟩)
                  first | (refine lb_skip (by rfl) ⟨_, (by (simp only [Act.put, List.setIfInBounds_toArray, List.set_cons_zero, List.set_cons_succ]; rfl)), ?_⟩) | (refine lb_val (by kernel_rfl) ⟨_, (by (intro w' hC; clear hC; (try go_simp); (try with_reducible rfl); done)), _, (by (simp only [Act.put, List.setIfInBounds_toArray, List.set_cons_zero, List.set_cons_succ]; rfl)), ?_⟩)
                  first | (refine lb_skip (by rfl) ⟨_, (by (simp only [Act.put, List.setIfInBounds_toArray, List.set_cons_zero, List.set_cons_succ]; rfl)), ?_⟩) | (refine lb_val (by kernel_rfl) ⟨_, (by (intro w' hC; (have ⟨_, d1, _, _⟩ := HJ.out w' hC); clear hC; (try go_simp); (try with_reducible rfl); done)), _, (by (simp only [Act.put, List.setIfInBounds_toArray, List.set_cons_zero, List.set_cons_succ]; rfl)), ?_⟩)
                  first | (refine lb_skip (by rfl) ⟨_, (by (simp only [Act.put, List.setIfInBounds_toArray, List.set_cons_zero, List.set_cons_succ]; rfl)), ?_⟩) | (refine lb_val (by kernel_rfl) ⟨_, (by (intro w' hC; clear hC; (try go_simp); (try with_reducible rfl); done)), _, (by (simp only [Act.put, List.setIfInBounds_toArray, List.set_cons_zero, List.set_cons_succ]; rfl)), ?_⟩)
                  first | (refine lb_skip (by rfl) ⟨_, (by (simp only [Act.put, List.setIfInBounds_toArray, List.set_cons_zero, List.set_cons_succ]; rfl)), ?_⟩) | (refine lb_val (by kernel_rfl) ⟨_, (by (intro w' hC; clear hC; (try go_simp); (try with_reducible rfl); done)), _, (by (simp only [Act.put, List.setIfInBounds_toArray, List.set_cons_zero, List.set_cons_succ]; rfl)), ?_⟩)
                  refine lb_val (by kernel_rfl) ⟨_, (by (intro w' hC; clear hC; (try go_simp); (try with_reducible rfl); done)), _, (by (simp only [Act.put, List.setIfInBounds_toArray, List.set_cons_zero, List.set_cons_succ]; rfl)), ?_⟩
                  refine .nil ?_
                  intro w6 hb6
                  have hb' := hb.trans (hb6.mono hb.size)
                  have HBS : Hid (BestE M1 (i + 1) (i : Int)) := Lib.hid (HBST.out.take hlt (by rw [← HYI.out]; exact HK.out) (.inr ⟨j, hj, rfl, by rw [← HYI.out, ← HZI.out]; exact hyz⟩))
                  clear hb6 HX
                  go_wp2_with fail
                  go_roundw
                  case rel => exact ⟨i + 1, (i : Int), hlt, by go_num, rfl, HBS.out, hb'⟩
                  case measure => simp [intOf]; omega
                · have hyd : decide (y.v < z.v) = false := decide_eq_false hyz
                  refine wp_region_b 24 (by kernel_rfl) (by kernel_rfl) ?_
                  simp only [List.take_succ_cons, List.take_zero, List.drop_succ_cons, List.drop_zero]
                  refine lb_move _ (by kernel_rfl) rfl ⟨_, (by ((try simp [go_sem]); (try rfl); done)), _, (by (simp only [Act.put, List.setIfInBounds_toArray, List.set_cons_zero, List.set_cons_succ]; rfl)), ?_⟩
                  refine lb_move _ (by kernel_rfl) rfl ⟨_, (by ((try simp [go_sem]); (try rfl); done)), _, (by (simp only [Act.put, List.setIfInBounds_toArray, List.set_cons_zero, List.set_cons_succ]; rfl)), ?_⟩
                  refine lb_val (by kernel_rfl) ⟨_, (by (intro w' hC; clear hC; (try go_simp); (try with_reducible rfl); done)), _, (by (simp only [Act.put, List.setIfInBounds_toArray, List.set_cons_zero, List.set_cons_succ]; rfl)), ?_⟩
                  refine lb_val (by kernel_rfl) ⟨_, (by (intro w' hC; clear hC; (try go_simp); (try with_reducible rfl); done)), _, (by (simp only [Act.put, List.setIfInBounds_toArray, List.set_cons_zero, List.set_cons_succ]; rfl)), ?_⟩
                  refine lb_val (by kernel_rfl) ⟨_, (by (intro w' hC; clear hC; (try go_simp); (try with_reducible rfl); done)), _, (by (simp only [Act.put, List.setIfInBounds_toArray, List.set_cons_zero, List.set_cons_succ]; rfl)), ?_⟩
                  refine lb_val (by kernel_rfl) ⟨_, (by (intro w' hC; (have ⟨_, _, c2, _⟩ := HX.out w' hC); clear hC; (try go_simp); (try with_reducible rfl); done)), _, (by (simp only [Act.put, List.setIfInBounds_toArray, List.set_cons_zero, List.set_cons_succ]; rfl)), ?_⟩
                  refine lb_val (by kernel_rfl) ⟨_, (by (intro w' hC; clear hC; (try go_simp); (try with_reducible rfl); done)), _, (by (simp only [Act.put, List.setIfInBounds_toArray, List.set_cons_zero, List.set_cons_succ]; rfl)), ?_⟩
                  refine lb_move _ (by kernel_rfl) rfl ⟨_, (by ((try simp [go_sem]); (try rfl); done)), _, (by (simp only [Act.put, List.setIfInBounds_toArray, List.set_cons_zero, List.set_cons_succ]; rfl)), ?_⟩
                  first | (refine lb_skip (by rfl) ⟨_, (by (simp only [Act.put, List.setIfInBounds_toArray, List.set_cons_zero, List.set_cons_succ]; rfl)), ?_⟩) | (refine lb_move _ (by kernel_rfl) rfl ⟨_, (by ((try simp [go_sem]); (try rfl); done)), _, (by (simp only [Act.put, List.setIfInBounds_toArray, List.set_cons_zero, List.set_cons_succ]; rfl)), ?_⟩)
                  first | (refine lb_skip (by rfl) ⟨_, (by (simp only [Act.put, List.setIfInBounds_toArray, List.set_cons_zero, List.set_cons_succ]; rfl)), ?_⟩) | (refine lb_val (by kernel_rfl) ⟨_, (by (intro w' hC; clear hC; (try go_simp); (try with_reducible rfl); done)), _, (by (simp only [Act.put, List.setIfInBounds_toArray, List.set_cons_zero, List.set_cons_succ]; rfl)), ?_⟩)
                  first | (refine lb_skip (by rfl) ⟨_, (by (simp only [Act.put, List.setIfInBounds_toArray, List.set_cons_zero, List.set_cons_succ]; rfl)), ?_⟩) | (refine lb_move _ (by kernel_rfl) rfl ⟨_, (by ((try simp [go_sem]); (try rfl); done)), _, (by (simp only [Act.put, List.setIfInBounds_toArray, List.set_cons_zero, List.set_cons_succ]; rfl)), ?_⟩)
                  first | (refine lb_skip (by rfl) ⟨_, (by (simp only [Act.put, List.setIfInBounds_toArray, List.set_cons_zero, List.set_cons_succ]; rfl)), ?_⟩) | (refine lb_move _ (by kernel_rfl) rfl ⟨_, (by ((try simp [go_sem]); (try rfl); done)), _, (by (simp only [Act.put, List.setIfInBounds_toArray, List.set_cons_zero, List.set_cons_succ]; rfl)), ?_⟩)
                  first | (refine lb_skip (by rfl) ⟨_, (by (simp only [Act.put, List.setIfInBounds_toArray, List.set_cons_zero, List.set_cons_succ]; rfl)), ?_⟩) | (refine lb_move _ (by kernel_rfl) rfl ⟨_, (by ((try simp [go_sem]); (try rfl); done)), _, (by (simp only [Act.put, List.setIfInBounds_toArray, List.set_cons_zero, List.set_cons_succ]; rfl)), ?_⟩)
                  first | (refine lb_skip (by rfl) ⟨_, (by (simp only [Act.put, List.setIfInBounds_toArray, List.set_cons_zero, List.set_cons_succ]; rfl)), ?_⟩) | (refine lb_val (by kernel_rfl) ⟨_, (by (intro w' hC; clear hC; (try go_simp); (try with_reducible rfl); done)), _, (by (simp only [Act.put, List.setIfInBounds_toArray, List.set_cons_zero, List.set_cons_succ]; rfl)), ?_⟩)
                  first | (refine lb_skip (by rfl) ⟨_, (by (simp only [Act.put, List.setIfInBounds_toArray, List.set_cons_zero, List.set_cons_succ]; rfl)), ?_⟩) | (refine lb_val (by kernel_rfl) ⟨_, (by (intro w' hC; clear hC; (try go_simp); (try with_reducible rfl); done)), _, (by (simp only [Act.put, List.setIfInBounds_toArray, List.set_cons_zero, List.set_cons_succ]; rfl)), ?_⟩)
                  first | (refine lb_skip (by rfl) ⟨_, (by (simp only [Act.put, List.setIfInBounds_toArray, List.set_cons_zero, List.set_cons_succ]; rfl)), ?_⟩) | (refine lb_val (by kernel_rfl) ⟨_, (by (intro w' hC; (have ⟨_, c1, _, _⟩ := HX.out w' hC); clear hC; (try go_simp); (try with_reducible rfl); done)), _, (by (simp only [Act.put, List.setIfInBounds_toArray, List.set_cons_zero, List.set_cons_succ]; rfl)), ?_⟩)
                  first | (refine lb_skip (by rfl) ⟨_, (by (simp only [Act.put, List.setIfInBounds_toArray, List.set_cons_zero, List.set_cons_succ]; rfl)), ?_⟩) | (refine lb_move _ (by kernel_rfl) rfl ⟨_, (by ((try simp [go_sem]); (try rfl); done)), _, (by (simp only [Act.put, List.setIfInBounds_toArray, List.set_cons_zero, List.set_cons_succ]; rfl)), ?_⟩)
                  first | (refine lb_skip (by rfl) ⟨_, (by (simp only [Act.put, List.setIfInBounds_toArray, List.set_cons_zero, List.set_cons_succ]; rfl)), ?_⟩) | (refine lb_move _ (by kernel_rfl) rfl ⟨_, (by ((try simp [go_sem]); (try rfl); done)), _, (by (simp only [Act.put, List.setIfInBounds_toArray, List.set_cons_zero, List.set_cons_succ]; rfl)), ?_⟩)
                  first | (refine lb_skip (by rfl) ⟨_, (by (simp only [Act.put, List.setIfInBounds_toArray, List.set_cons_zero, List.set_cons_succ]; rfl)), ?_⟩) | (refine lb_val (by kernel_rfl) ⟨_, (by (intro w' hC; clear hC; (try go_simp); (try with_reducible rfl); done)), _, (by (simp only [Act.put, List.setIfInBounds_toArray, List.set_cons_zero, List.set_cons_succ]; rfl)), ?_⟩)
                  first | (refine lb_skip (by rfl) ⟨_, (by (simp only [Act.put, List.setIfInBounds_toArray, List.set_cons_zero, List.set_cons_succ]; rfl)), ?_⟩) | (refine lb_val (by kernel_rfl) ⟨_, (by (intro w' hC; clear hC; (try go_simp); (try with_reducible rfl); done)), _, (by (simp only [Act.put, List.setIfInBounds_toArray, List.set_cons_zero, List.set_cons_succ]; rfl)), ?_⟩)
                  first | (refine lb_skip (by rfl) ⟨_, (by (simp only [Act.put, List.setIfInBounds_toArray, List.set_cons_zero, List.set_cons_succ]; rfl)), ?_⟩) | (refine lb_val (by kernel_rfl) ⟨_, (by (intro w' hC; (have ⟨_, d1, _, _⟩ := HJ.out w' hC); clear hC; (try go_simp); (try with_reducible rfl); done)), _, (by (simp only [Act.put, List.setIfInBounds_toArray, List.set_cons_zero, List.set_cons_succ]; rfl)), ?_⟩)
                  first | (refine lb_skip (by rfl) ⟨_, (by (simp only [Act.put, List.setIfInBounds_toArray, List.set_cons_zero, List.set_cons_succ]; rfl)), ?_⟩) | (refine lb_val (by kernel_rfl) ⟨_, (by (intro w' hC; clear hC; (try go_simp); (try with_reducible rfl); done)), _, (by (simp only [Act.put, List.setIfInBounds_toArray, List.set_cons_zero, List.set_cons_succ]; rfl)), ?_⟩)
                  first | (refine lb_skip (by rfl) ⟨_, (by (simp only [Act.put, List.setIfInBounds_toArray, List.set_cons_zero, List.set_cons_succ]; rfl)), ?_⟩) | (refine lb_val (by kernel_rfl) ⟨_, (by (intro w' hC; clear hC; (try go_simp); (try with_reducible rfl); done)), _, (by (simp only [Act.put, List.setIfInBounds_toArray, List.set_cons_zero, List.set_cons_succ]; rfl)), ?_⟩)
                  refine lb_val (by kernel_rfl) ⟨_, (by (intro w' hC; clear hC; (try go_simp); (try with_reducible rfl); done)), _, (by (simp only [Act.put, List.setIfInBounds_toArray, List.set_cons_zero, List.set_cons_succ]; rfl)), ?_⟩
                  refine .nil ?_
                  intro w6 hb6
                  have hb' := hb.trans (hb6.mono hb.size)
                  have HBS : Hid (BestE M1 (i + 1) (j : Int)) := Lib.hid (HBST.out.keep hlt (.inr ⟨j, hj, rfl, by rw [← HYI.out, ← HZI.out]; exact hyz⟩))
                  clear hb6 HX
                  go_wp2_with fail
                  go_roundw
                  case rel => exact ⟨i + 1, (j : Int), hlt, by go_num, rfl, HBS.out, hb'⟩
                  case measure => simp [intOf]; omega
            · have hkb : (y.k == 0) = false := by simpa using hk
              have HJ : Hid True := trivial
              refine wp_region_b 24 (by kernel_rfl) (by kernel_rfl) ?_
              simp only [List.take_succ_cons, List.take_zero, List.drop_succ_cons, List.drop_zero]
              refine lb_move _ (by kernel_rfl) rfl ⟨_, (by ((try simp [go_sem]); (try rfl); done)), _, (by (simp only [Act.put, List.setIfInBounds_toArray, List.set_cons_zero, List.set_cons_succ]; rfl)), ?_⟩
              refine lb_move _ (by kernel_rfl) rfl ⟨_, (by ((try simp [go_sem]); (try rfl); done)), _, (by (simp only [Act.put, List.setIfInBounds_toArray, List.set_cons_zero, List.set_cons_succ]; rfl)), ?_⟩
              refine lb_val (by kernel_rfl) ⟨_, (by (intro w' hC; clear hC; (try go_simp); (try with_reducible rfl); done)), _, (by (simp only [Act.put, List.setIfInBounds_toArray, List.set_cons_zero, List.set_cons_succ]; rfl)), ?_⟩
              refine lb_val (by kernel_rfl) ⟨_, (by (intro w' hC; clear hC; (try go_simp); (try with_reducible rfl); done)), _, (by (simp only [Act.put, List.setIfInBounds_toArray, List.set_cons_zero, List.set_cons_succ]; rfl)), ?_⟩
              refine lb_val (by kernel_rfl) ⟨_, (by (intro w' hC; clear hC; (try go_simp); (try with_reducible rfl); done)), _, (by (simp only [Act.put, List.setIfInBounds_toArray, List.set_cons_zero, List.set_cons_succ]; rfl)), ?_⟩
              refine lb_val (by kernel_rfl) ⟨_, (by (intro w' hC; (have ⟨_, _, c2, _⟩ := HX.out w' hC); clear hC; (try go_simp); (try with_reducible rfl); done)), _, (by (simp only [Act.put, List.setIfInBounds_toArray, List.set_cons_zero, List.set_cons_succ]; rfl)), ?_⟩
              refine lb_val (by kernel_rfl) ⟨_, (by (intro w' hC; clear hC; (try go_simp); (try with_reducible rfl); done)), _, (by (simp only [Act.put, List.setIfInBounds_toArray, List.set_cons_zero, List.set_cons_succ]; rfl)), ?_⟩
              refine lb_move _ (by kernel_rfl) rfl ⟨_, (by ((try simp [go_sem]); (try rfl); done)), _, (by (simp only [Act.put, List.setIfInBounds_toArray, List.set_cons_zero, List.set_cons_succ]; rfl)), ?_⟩
              first | (refine lb_skip (by rfl) ⟨_, (by (simp only [Act.put, List.setIfInBounds_toArray, List.set_cons_zero, List.set_cons_succ]; rfl)), ?_⟩) | (refine lb_move _ (by kernel_rfl) rfl ⟨_, (by ((try simp [go_sem]); (try rfl); done)), _, (by (simp only [Act.put, List.setIfInBounds_toArray, List.set_cons_zero, List.set_cons_succ]; rfl)), ?_⟩)
              first | (refine lb_skip (by rfl) ⟨_, (by (simp only [Act.put, List.setIfInBounds_toArray, List.set_cons_zero, List.set_cons_succ]; rfl)), ?_⟩) | (refine lb_val (by kernel_rfl) ⟨_, (by (intro w' hC; clear hC; (try go_simp); (try with_reducible rfl); done)), _, (by (simp only [Act.put, List.setIfInBounds_toArray, List.set_cons_zero, List.set_cons_succ]; rfl)), ?_⟩)
              first | (refine lb_skip (by rfl) ⟨_, (by (simp only [Act.put, List.setIfInBounds_toArray, List.set_cons_zero, List.set_cons_succ]; rfl)), ?_⟩) | (refine lb_move _ (by kernel_rfl) rfl ⟨_, (by ((try simp [go_sem]); (try rfl); done)), _, (by (simp only [Act.put, List.setIfInBounds_toArray, List.set_cons_zero, List.set_cons_succ]; rfl)), ?_⟩)
              first | (refine lb_skip (by rfl) ⟨_, (by (simp only [Act.put, List.setIfInBounds_toArray, List.set_cons_zero, List.set_cons_succ]; rfl)), ?_⟩) | (refine lb_move _ (by kernel_rfl) rfl ⟨_, (by ((try simp [go_sem]); (try rfl); done)), _, (by (simp only [Act.put, List.setIfInBounds_toArray, List.set_cons_zero, List.set_cons_succ]; rfl)), ?_⟩)
              first | (refine lb_skip (by rfl) ⟨_, (by (simp only [Act.put, List.setIfInBounds_toArray, List.set_cons_zero, List.set_cons_succ]; rfl)), ?_⟩) | (refine lb_move _ (by kernel_rfl) rfl ⟨_, (by ((try simp [go_sem]); (try rfl); done)), _, (by (simp only [Act.put, List.setIfInBounds_toArray, List.set_cons_zero, List.set_cons_succ]; rfl)), ?_⟩)
              first | (refine lb_skip (by rfl) ⟨_, (by (simp only [Act.put, List.setIfInBounds_toArray, List.set_cons_zero, List.set_cons_succ]; rfl)), ?_⟩) | (refine lb_val (by kernel_rfl) ⟨_, (by (intro w' hC; clear hC; (try go_simp); (try with_reducible rfl); done)), _, (by (simp only [Act.put, List.setIfInBounds_toArray, List.set_cons_zero, List.set_cons_succ]; rfl)), ?_⟩)
              first | (refine lb_skip (by rfl) ⟨_, (by (simp only [Act.put, List.setIfInBounds_toArray, List.set_cons_zero, List.set_cons_succ]; rfl)), ?_⟩) | (refine lb_val (by kernel_rfl) ⟨_, (by (intro w' hC; clear hC; (try go_simp); (try with_reducible rfl); done)), _, (by (simp only [Act.put, List.setIfInBounds_toArray, List.set_cons_zero, List.set_cons_succ]; rfl)), ?_⟩)
              first | (refine lb_skip (by rfl) ⟨_, (by (simp only [Act.put, List.setIfInBounds_toArray, List.set_cons_zero, List.set_cons_succ]; rfl)), ?_⟩) | (refine lb_val (by kernel_rfl) ⟨_, (by (intro w' hC; (have ⟨_, c1, _, _⟩ := HX.out w' hC); clear hC; (try go_simp); (try with_reducible rfl); done)), _, (by (simp only [Act.put, List.setIfInBounds_toArray, List.set_cons_zero, List.set_cons_succ]; rfl)), ?_⟩)
              first | (refine lb_skip (by rfl) ⟨_, (by (simp only [Act.put, List.setIfInBounds_toArray, List.set_cons_zero, List.set_cons_succ]; rfl)), ?_⟩) | (refine lb_move _ (by kernel_rfl) rfl ⟨_, (by ((try simp [go_sem]); (try rfl); done)), _, (by (simp only [Act.put, List.setIfInBounds_toArray, List.set_cons_zero, List.set_cons_succ]; rfl)), ?_⟩)
              first | (refine lb_skip (by rfl) ⟨_, (by (simp only [Act.put, List.setIfInBounds_toArray, List.set_cons_zero, List.set_cons_succ]; rfl)), ?_⟩) | (refine lb_move _ (by kernel_rfl) rfl ⟨_, (by ((try simp [go_sem]); (try rfl); done)), _, (by (simp only [Act.put, List.setIfInBounds_toArray, List.set_cons_zero, List.set_cons_succ]; rfl)), ?_⟩)
              first | (refine lb_skip (by rfl) ⟨_, (by (simp only [Act.put, List.setIfInBounds_toArray, List.set_cons_zero, List.set_cons_succ]; rfl)), ?_⟩) | (refine lb_val (by kernel_rfl) ⟨_, (by (intro w' hC; clear hC; (try go_simp); (try with_reducible rfl); done)), _, (by (simp only [Act.put, List.setIfInBounds_toArray, List.set_cons_zero, List.set_cons_succ]; rfl)), ?_⟩)
              first | (refine lb_skip (by rfl) ⟨_, (by (simp only [Act.put, List.setIfInBounds_toArray, List.set_cons_zero, List.set_cons_succ]; rfl)), ?_⟩) | (refine lb_val (by kernel_rfl) ⟨_, (by (intro w' hC; clear hC; (try go_simp); (try with_reducible rfl); done)), _, (by (simp only [Act.put, List.setIfInBounds_toArray, List.set_cons_zero, List.set_cons_succ]; rfl)), ?_⟩)
              first | (refine lb_skip (by rfl) ⟨_, (by (simp only [Act.put, List.setIfInBounds_toArray, List.set_cons_zero, List.set_cons_succ]; rfl)), ?_⟩) | (refine lb_val (by kernel_rfl) ⟨_, (by (intro w' hC; (have ⟨_, d1, _, _⟩ := HJ.out w' hC); clear hC; (try go_simp); (try with_reducible rfl); done)), _, (by (simp only [Act.put, List.setIfInBounds_toArray, List.set_cons_zero, List.set_cons_succ]; rfl)), ?_⟩)
              first | (refine lb_skip (by rfl) ⟨_, (by (simp only [Act.put, List.setIfInBounds_toArray, List.set_cons_zero, List.set_cons_succ]; rfl)), ?_⟩) | (refine lb_val (by kernel_rfl) ⟨_, (by (intro w' hC; clear hC; (try go_simp); (try with_reducible rfl); done)), _, (by (simp only [Act.put, List.setIfInBounds_toArray, List.set_cons_zero, List.set_cons_succ]; rfl)), ?_⟩)
              first | (refine lb_skip (by rfl) ⟨_, (by (simp only [Act.put, List.setIfInBounds_toArray, List.set_cons_zero, List.set_cons_succ]; rfl)), ?_⟩) | (refine lb_val (by kernel_rfl) ⟨_, (by (intro w' hC; clear hC; (try go_simp); (try with_reducible rfl); done)), _, (by (simp only [Act.put, List.setIfInBounds_toArray, List.set_cons_zero, List.set_cons_succ]; rfl)), ?_⟩)
              refine lb_val (by kernel_rfl) ⟨_, (by (intro w' hC; clear hC; (try go_simp); (try with_reducible rfl); done)), _, (by (simp only [Act.put, List.setIfInBounds_toArray, List.set_cons_zero, List.set_cons_succ]; rfl)), ?_⟩
              refine .nil ?_
              intro w6 hb6
              have hb' := hb.trans (hb6.mono hb.size)
              have HBS : Hid (BestE M1 (i + 1) b) := Lib.hid (HBST.out.keep hlt (.inl (by rw [← HYI.out]; exact hk)))
              clear hb6 HX
              go_wp2_with fail
              go_roundw
              case rel => exact ⟨i + 1, b, hlt, by go_num, rfl, HBS.out, hb'⟩
              case measure => simp [intOf]; omega
          · have e : i = M1.length := by omega
            subst e
            unfold BestE at hbst
            rw [List.take_length] at hbst
            replace y0 := y0.below hb
            replace y1 := y1.below hb
            replace y2 := y2.below hb
            replace hW := hW.trans (hb.mono hW.size)
            replace HE1 := Lib.hid (HE1.out.below hb)
            rcases hbst with ⟨rfl, hbn⟩ | ⟨j, hj, rfl, hji, hbj⟩
            · obtain ⟨hT, rfl⟩ : T = M.map EV.pl ∧ E = 24 := by
                have := HR3.out
                rw [hbn] at this
                simpa using this
              have HT : Hid (M.map EV.pl = T) := Lib.hid hT.symm
              clear HR3 hT hbn hb
              have p0 := y0.cell 0
              have p1 := y0.cell 1
              simp only [List.getElem?_toArray, List.getElem?_cons_zero, List.getElem?_cons_succ] at p0 p1
              have r0 := y2.cell 0
              have r1 := y2.cell 1
              simp only [List.getElem?_toArray, List.getElem?_cons_zero, List.getElem?_cons_succ] at r0 r1
              have fr := fun o => y2.frozen o
              have K1 := Lib.hid (HE.out.below hW)
              have HY := Lib.hid y2
              go_wp2_with fail
              have kR : Fr (fun x => x = w.heap.size + 2) wr ((wr.setCell ⟨w.heap.size + 2, 0, none⟩ (.int .u64 s)).setCell ⟨w.heap.size + 2, 1, none⟩ (.slice A M.length c)) := ((Fr.refl (fun x => x = w.heap.size + 2) wr).setAt (w.heap.size + 2) _ rfl _).setAt (w.heap.size + 2) _ rfl _
              have yR := (y2.set_ 0 (.int .u64 s)).set_ 1 (.slice A M.length c)
              simp only [List.setIfInBounds_toArray, List.set_cons_zero, List.set_cons_succ] at yR
              have hwR : Below w.heap.size w ((wr.setCell ⟨w.heap.size + 2, 0, none⟩ (.int .u64 s)).setCell ⟨w.heap.size + 2, 1, none⟩ (.slice A M.length c)) := hW.trans (kR.below (B := w.heap.size) hW.size (fun k hk e => by omega))
              generalize ((wr.setCell ⟨w.heap.size + 2, 0, none⟩ (.int .u64 s)).setCell ⟨w.heap.size + 2, 1, none⟩ (.slice A M.length c)) = wR at *
              have s0 := yR.cell 0
              have s1 := yR.cell 1
              simp only [List.getElem?_toArray, List.getElem?_cons_zero, List.getElem?_cons_succ] at s0 s1
              refine bodyPost_ret (v := .tuple #[.agg #[.int .u64 s, .slice A M.length c], .int .i64 24]) (by simp [results, Tryz.results51, go_sem, s0, s1]) rfl ?_
              exact ⟨⟨A, c, M, rfl, HT.out, K1.out.notBook HY.out (by simp) (by simp) kR⟩, hwR⟩
            · obtain ⟨hT, rfl⟩ : T = putR (withoutR (M1.map EV.pl) (tl M1[j].p)) (tl x.p) x.ep ∧ E = 0 := by
                have := HR3.out
                rw [hbj] at this
                simp only [Option.elim, Prod.mk.injEq] at this
                exact this
              obtain ⟨bk, off, hA, hbb, c0, c1', c2, c3⟩ := HE1.out.at_ hj
              have hb1 : decide ((j : Int) < 0) = false := decide_eq_false (by omega)
              have HWO := Lib.hid (refWithout22_any A1 c1 M1 M1[j].p wr HE1.out)
              have HT0 := Lib.hid hT
              obtain ⟨q, hq⟩ : ∃ q, q = M1[j].p := ⟨_, rfl⟩
              rw [← hq] at c0 HWO HT0
              subst hA
              clear c1' c2 c3 hT hbj HR3 hq hb
              go_wp2_with fail
              refine HWO.out.mono ?_
              rintro e w7 ⟨⟨A2, c2, M2, rfl, hM2, ho2⟩, hb7⟩
              replace y0 := y0.below hb7
              replace y1 := y1.below hb7
              replace y2 := y2.below hb7
              replace hW := hW.trans (hb7.mono hW.size)
              have hM2l : M2.length ≤ M1.length := by rw [hM2.out]; exact without_lenE _ _
              have HE2 : Hid (EsR w7 A2 M2) := Lib.hid (ho2.esr (fun y hy => by rw [hM2.out] at hy; exact (HE1.out.below hb7).ok y (without_mem hy)) (by omega))
              have HP2 : Hid (∀ y ∈ M2, y.p.size ≤ 1048576) := Lib.hid (fun y hy => by rw [hM2.out] at hy; exact HP1.out y (without_mem hy))
              have HT2 : Hid (insR (tl x.p) x.ep (M2.map EV.pl) = T) := Lib.hid (by
                rw [HT0.out, hM2.out, pl_without]
                unfold putR
                rw [without_self (L := withoutR (M1.map EV.pl) (tl q))]
                rw [getR_without, HPM.out, HGN.out]
                simp)
              clear HWO ho2 hb7 hM2 c0 hb1
              go_upto_region 18 with (fail)
              refine wp_region_m [true, true, true, true, false, true] (fun W => Below w7.heap.size w7 W) (by kernel_rfl) (by kernel_rfl) ?_
              simp only [List.length_cons, List.length_nil, Nat.zero_add, Nat.reduceAdd, List.take_succ_cons, List.take_zero, List.drop_succ_cons, List.drop_zero]
              refine mx_val (by kernel_rfl) ⟨_, (by (intro w' hC; clear hC; (try go_simp); (try with_reducible rfl); done)), _, (by (simp only [Act.put, List.setIfInBounds_toArray, List.set_cons_zero, List.set_cons_succ]; rfl)), ?_⟩
              refine mx_val (by kernel_rfl) ⟨_, (by (intro w' hC; (have q := (y0.below hC).cell 0; simp only [List.getElem?_toArray, List.getElem?_cons_zero] at q); clear hC; (try go_simp); (try with_reducible rfl); done)), _, (by (simp only [Act.put, List.setIfInBounds_toArray, List.set_cons_zero, List.set_cons_succ]; rfl)), ?_⟩
              refine mx_move _ (by kernel_rfl) rfl ⟨_, (by ((try simp [go_sem]); (try rfl); done)), _, (by (simp only [Act.put, List.setIfInBounds_toArray, List.set_cons_zero, List.set_cons_succ]; rfl)), ?_⟩
              refine mx_val (by kernel_rfl) ⟨_, (by (intro w' hC; (have q0 := (y1.below hC).cell 0; have q1 := (y1.below hC).cell 1; have q2 := (y1.below hC).cell 2; have q3 := (y1.below hC).cell 3; simp only [List.getElem?_toArray, List.getElem?_cons_zero, List.getElem?_cons_succ] at q0 q1 q2 q3); clear hC; (try go_simp); (try with_reducible rfl); done)), _, (by (simp only [Act.put, List.setIfInBounds_toArray, List.set_cons_zero, List.set_cons_succ]; rfl)), ?_⟩
              refine mx_call ((Below.refl _ _).drew) (by kernel_rfl) ?_ (refWith22_any A2 c2 M2 x w7.drew (HE2.out.below (Below.refl _ _).drew) hp (fun y hy => HP2.out y hy)) ?_
              · (go_simp; done)
              rintro e wz ⟨⟨Az, cz, Mz, rfl, hMz, hoz⟩, hbz⟩
              have hlow : Below w7.heap.size w7 wz := (Below.refl _ _).drew.trans (hbz.mono (Nat.le_refl _))
              refine ⟨_, rfl, _, (by (simp only [Act.put, List.setIfInBounds_toArray, List.set_cons_zero, List.set_cons_succ]; rfl)), ?_⟩
              refine mx_val (by kernel_rfl) ⟨_, (by (intro w' hC; clear hC; (try go_simp); (try with_reducible rfl); done)), _, (by (simp only [Act.put, List.setIfInBounds_toArray, List.set_cons_zero, List.set_cons_succ]; rfl)), ?_⟩
              refine mx_end hlow ?_
              replace y0 := y0.below hlow
              replace y1 := y1.below hlow
              replace y2 := y2.below hlow
              replace hW := hW.trans (hlow.mono hW.size)
              have hes : EsR wz Az Mz := hoz.esr (fun y hy => by
                rw [hMz.out] at hy
                rcases mem_insE hy with rfl | hy
                · exact HXO.out.below hW
                · exact (HE2.out.below hlow).ok y hy) (by rw [hMz.out, insE_len]; omega)
              have hpl : Hid (Mz.map EV.pl = T) := Lib.hid (by rw [hMz.out, pl_ins, HT2.out])
              have r0 := y2.cell 0
              have r1 := y2.cell 1
              simp only [List.getElem?_toArray, List.getElem?_cons_zero, List.getElem?_cons_succ] at r0 r1
              have fr := fun o => y2.frozen o
              have K1 := Lib.hid hes
              have HY := Lib.hid y2
              clear hoz hbz hMz hes hlow HE2
              go_wp2_with fail
              have kR : Fr (fun x => x = w.heap.size + 2) wz ((wz.setCell ⟨w.heap.size + 2, 0, none⟩ (.int .u64 s)).setCell ⟨w.heap.size + 2, 1, none⟩ (.slice Az Mz.length cz)) := ((Fr.refl (fun x => x = w.heap.size + 2) wz).setAt (w.heap.size + 2) _ rfl _).setAt (w.heap.size + 2) _ rfl _
              have yR := (y2.set_ 0 (.int .u64 s)).set_ 1 (.slice Az Mz.length cz)
              simp only [List.setIfInBounds_toArray, List.set_cons_zero, List.set_cons_succ] at yR
              have hwR : Below w.heap.size w ((wz.setCell ⟨w.heap.size + 2, 0, none⟩ (.int .u64 s)).setCell ⟨w.heap.size + 2, 1, none⟩ (.slice Az Mz.length cz)) := hW.trans (kR.below (B := w.heap.size) hW.size (fun k hk e => by omega))
              generalize ((wz.setCell ⟨w.heap.size + 2, 0, none⟩ (.int .u64 s)).setCell ⟨w.heap.size + 2, 1, none⟩ (.slice Az Mz.length cz)) = wR at *
              have s0 := yR.cell 0
              have s1 := yR.cell 1
              simp only [List.getElem?_toArray, List.getElem?_cons_zero, List.getElem?_cons_succ] at s0 s1
              refine bodyPost_ret (v := .tuple #[.agg #[.int .u64 s, .slice Az Mz.length cz], .int .i64 0]) (by simp [results, Tryz.results51, go_sem, s0, s1]) rfl ?_
              exact ⟨⟨Az, cz, Mz, rfl, hpl.out, K1.out.notBook HY.out (by simp) (by simp) kR⟩, hwR⟩
      · have hl2 : decide ((256 : Int) ≤ (M1.length : Int)) = false := decide_eq_false (by omega)
        obtain ⟨hT, rfl⟩ : T = putR (M.map EV.pl) (tl x.p) x.ep ∧ E = 0 := by
          have := HR2.out
          rw [if_neg (by
            rintro ⟨h1, h2⟩
            have h3 : M1.length = M.length := by
              have := congrArg List.length HM1.out
              have h4 : (withoutE x.p M).length = ((withoutE x.p M).map EV.pl).length := by simp
              rw [this, h4, pl_without, without_self (by simpa using h1)]
              simp
            omega)] at this
          simpa using this
        have HT2 : Hid (insR (tl x.p) x.ep (M1.map EV.pl) = T) := Lib.hid (by
          rw [hT, HM1.out, pl_without]
          rfl)
        clear hT HR2
        go_upto_region 18 with (fail)
        refine wp_region_m [true, true, true, true, false, true] (fun W => Below w5.heap.size w5 W) (by kernel_rfl) (by kernel_rfl) ?_
        simp only [List.length_cons, List.length_nil, Nat.zero_add, Nat.reduceAdd, List.take_succ_cons, List.take_zero, List.drop_succ_cons, List.drop_zero]
        refine mx_val (by kernel_rfl) ⟨_, (by (intro w' hC; clear hC; (try go_simp); (try with_reducible rfl); done)), _, (by (simp only [Act.put, List.setIfInBounds_toArray, List.set_cons_zero, List.set_cons_succ]; rfl)), ?_⟩
        refine mx_val (by kernel_rfl) ⟨_, (by (intro w' hC; (have q := (y0.below hC).cell 0; simp only [List.getElem?_toArray, List.getElem?_cons_zero] at q); clear hC; (try go_simp); (try with_reducible rfl); done)), _, (by (simp only [Act.put, List.setIfInBounds_toArray, List.set_cons_zero, List.set_cons_succ]; rfl)), ?_⟩
        refine mx_move _ (by kernel_rfl) rfl ⟨_, (by ((try simp [go_sem]); (try rfl); done)), _, (by (simp only [Act.put, List.setIfInBounds_toArray, List.set_cons_zero, List.set_cons_succ]; rfl)), ?_⟩
        refine mx_val (by kernel_rfl) ⟨_, (by (intro w' hC; (have q0 := (y1.below hC).cell 0; have q1 := (y1.below hC).cell 1; have q2 := (y1.below hC).cell 2; have q3 := (y1.below hC).cell 3; simp only [List.getElem?_toArray, List.getElem?_cons_zero, List.getElem?_cons_succ] at q0 q1 q2 q3); clear hC; (try go_simp); (try with_reducible rfl); done)), _, (by (simp only [Act.put, List.setIfInBounds_toArray, List.set_cons_zero, List.set_cons_succ]; rfl)), ?_⟩
        refine mx_call ((Below.refl _ _).drew) (by kernel_rfl) ?_ (refWith22_any A1 c1 M1 x w5.drew (HE1.out.below (Below.refl _ _).drew) hp (fun y hy => HP1.out y hy)) ?_
        · (go_simp; done)
        rintro e wz ⟨⟨Az, cz, Mz, rfl, hMz, hoz⟩, hbz⟩
        have hlow : Below w5.heap.size w5 wz := (Below.refl _ _).drew.trans (hbz.mono (Nat.le_refl _))
        refine ⟨_, rfl, _, (by (simp only [Act.put, List.setIfInBounds_toArray, List.set_cons_zero, List.set_cons_succ]; rfl)), ?_⟩
        refine mx_val (by kernel_rfl) ⟨_, (by (intro w' hC; clear hC; (try go_simp); (try with_reducible rfl); done)), _, (by (simp only [Act.put, List.setIfInBounds_toArray, List.set_cons_zero, List.set_cons_succ]; rfl)), ?_⟩
        refine mx_end hlow ?_
        replace y0 := y0.below hlow
        replace y1 := y1.below hlow
        replace y2 := y2.below hlow
        replace hW := hW.trans (hlow.mono hW.size)
        have hes : EsR wz Az Mz := hoz.esr (fun y hy => by
          rw [hMz.out] at hy
          rcases mem_insE hy with rfl | hy
          · exact HXO.out.below hW
          · exact (HE1.out.below hlow).ok y hy) (by rw [hMz.out, insE_len]; omega)
        have hpl : Hid (Mz.map EV.pl = T) := Lib.hid (by rw [hMz.out, pl_ins, HT2.out])
        have r0 := y2.cell 0
        have r1 := y2.cell 1
        simp only [List.getElem?_toArray, List.getElem?_cons_zero, List.getElem?_cons_succ] at r0 r1
        have fr := fun o => y2.frozen o
        have K1 := Lib.hid hes
        have HY := Lib.hid y2
        clear hoz hbz hMz hes hlow HE1
        go_wp2_with fail
        have kR : Fr (fun x => x = w.heap.size + 2) wz ((wz.setCell ⟨w.heap.size + 2, 0, none⟩ (.int .u64 s)).setCell ⟨w.heap.size + 2, 1, none⟩ (.slice Az Mz.length cz)) := ((Fr.refl (fun x => x = w.heap.size + 2) wz).setAt (w.heap.size + 2) _ rfl _).setAt (w.heap.size + 2) _ rfl _
        have yR := (y2.set_ 0 (.int .u64 s)).set_ 1 (.slice Az Mz.length cz)
        simp only [List.setIfInBounds_toArray, List.set_cons_zero, List.set_cons_succ] at yR
        have hwR : Below w.heap.size w ((wz.setCell ⟨w.heap.size + 2, 0, none⟩ (.int .u64 s)).setCell ⟨w.heap.size + 2, 1, none⟩ (.slice Az Mz.length cz)) := hW.trans (kR.below (B := w.heap.size) hW.size (fun k hk e => by omega))
        generalize ((wz.setCell ⟨w.heap.size + 2, 0, none⟩ (.int .u64 s)).setCell ⟨w.heap.size + 2, 1, none⟩ (.slice Az Mz.length cz)) = wR at *
        have s0 := yR.cell 0
        have s1 := yR.cell 1
        simp only [List.getElem?_toArray, List.getElem?_cons_zero, List.getElem?_cons_succ] at s0 s1
        refine bodyPost_ret (v := .tuple #[.agg #[.int .u64 s, .slice Az Mz.length cz], .int .i64 0]) (by simp [results, Tryz.results51, go_sem, s0, s1]) rfl ?_
        exact ⟨⟨Az, cz, Mz, rfl, hpl.out, K1.out.notBook HY.out (by simp) (by simp) kR⟩, hwR⟩
  · have hCb : (C != 0) = true := by simpa using hC0
    obtain ⟨hT, rfl⟩ : T = M.map EV.pl ∧ E = C := by
      have := HR.out
      unfold putP putB at this
      rw [if_pos (by rw [← HC.out]; exact hC0), ← HC.out] at this
      simpa using this
    have HT : Hid (M.map EV.pl = T) := Lib.hid hT.symm
    clear HR HC hT
    have p0 := y0.cell 0
    have p1 := y0.cell 1
    simp only [List.getElem?_toArray, List.getElem?_cons_zero, List.getElem?_cons_succ] at p0 p1
    have r0 := y2.cell 0
    have r1 := y2.cell 1
    simp only [List.getElem?_toArray, List.getElem?_cons_zero, List.getElem?_cons_succ] at r0 r1
    have fr := fun o => y2.frozen o
    have K1 := Lib.hid (HE.out.below hW)
    have HY := Lib.hid y2
    go_wp2_with fail
    have kR : Fr (fun x => x = w.heap.size + 2) w2 ((w2.setCell ⟨w.heap.size + 2, 0, none⟩ (.int .u64 s)).setCell ⟨w.heap.size + 2, 1, none⟩ (.slice A M.length c)) := ((Fr.refl (fun x => x = w.heap.size + 2) w2).setAt (w.heap.size + 2) _ rfl _).setAt (w.heap.size + 2) _ rfl _
    have yR := (y2.set_ 0 (.int .u64 s)).set_ 1 (.slice A M.length c)
    simp only [List.setIfInBounds_toArray, List.set_cons_zero, List.set_cons_succ] at yR
    have hwR : Below w.heap.size w ((w2.setCell ⟨w.heap.size + 2, 0, none⟩ (.int .u64 s)).setCell ⟨w.heap.size + 2, 1, none⟩ (.slice A M.length c)) := hW.trans (kR.below (B := w.heap.size) hW.size (fun k hk e => by omega))
    generalize ((w2.setCell ⟨w.heap.size + 2, 0, none⟩ (.int .u64 s)).setCell ⟨w.heap.size + 2, 1, none⟩ (.slice A M.length c)) = wR at *
    have s0 := yR.cell 0
    have s1 := yR.cell 1
    simp only [List.getElem?_toArray, List.getElem?_cons_zero, List.getElem?_cons_succ] at s0 s1
    refine bodyPost_ret (v := .tuple #[.agg #[.int .u64 s, .slice A M.length c], .int .i64 E]) (by simp [results, Tryz.results51, go_sem, s0, s1]) rfl ?_
    exact ⟨⟨A, c, M, rfl, HT.out, K1.out.notBook HY.out (by simp) (by simp) kR⟩, hwR⟩

end Go.Proofs.YtdnljmncdbcgeaaGreat

/- tenderref22: Same. -/
namespace Go.Proofs.YtdnljmncdbcgeaaGreat
open Go.RowKit

theorem pl_snoc (M : List EV) (i : Nat) (hi : i < M.length) : (M.take (i + 1)).map EV.pl = (M.take i).map EV.pl ++ [M[i].pl] := by
  rw [List.take_succ_eq_append_getElem hi, List.map_append]
  rfl
theorem pl_get (M : List EV) (i : Nat) (hi : i < M.length) : (M.map EV.pl)[i]? = some M[i].pl := by
  rw [List.getElem?_map, List.getElem?_eq_getElem hi]
  rfl
theorem sameE_pl (x y : EV) : sameE (tl x.p) (tl y.p) x.v y.v x.k y.k x.x.l y.x.l = decide (x.pl = y.pl) := by
  rw [Bool.eq_iff_iff]
  simp only [sameE, Bool.and_eq_true, beq_iff_eq, decide_eq_true_eq, EV.pl, Prod.mk.injEq, and_assoc]
/-- entries in a slice, to be read; nothing said of the bytes' room -/
structure EsB (w : World) (A : Option Addr) (M : List EV) : Prop where
  rd : Rd w (fun _ => True) 4 A M.length (M.flatMap EV.cells)
  ok : ∀ x ∈ M, By w (fun _ => True) x.x.A x.x.l
  len : M.length ≤ 1000000
theorem EsB.below {w w' : World} {A : Option Addr} {M : List EV} (h : EsB w A M) (k : Below w.heap.size w w') : EsB w' A M := ⟨h.rd.below k, fun x hx => (h.ok x hx).below k, h.len⟩
theorem EsR.esb {w : World} {A : Option Addr} {M : List EV} (h : EsR w A M) : EsB w A M := ⟨h.rd, fun x hx => (h.ok x hx).1, h.len⟩
theorem EsB.at_ {w : World} {A : Option Addr} {M : List EV} {i : Nat} (h : EsB w A M) (hi : i < M.length) :
    ∃ b off, A = some ⟨b, off, none⟩ ∧ b < w.heap.size ∧ w.cell? ⟨b, off + i * 4, none⟩ = some (.string M[i].p) ∧ w.cell? ⟨b, off + i * 4 + 1, none⟩ = some (.int .u64 M[i].v) ∧ w.cell? ⟨b, off + i * 4 + 2, none⟩ = some (.int .i64 M[i].k) ∧ w.cell? ⟨b, off + i * 4 + 3, none⟩ = some (.slice M[i].x.A M[i].x.l.length M[i].x.c) := by
  obtain ⟨b, off, hA, _, hb, hc⟩ := h.rd.2 (by omega)
  have hg : ∀ j, j < 4 → (M.flatMap EV.cells)[i * 4 + j]? = (EV.cells M[i])[j]? := fun j hj => flat_get (k := 4) ev_cells_len M i j hi hj
  refine ⟨b, off, hA, hb, hc _ _ (hg 0 (by omega)), ?_, ?_, ?_⟩
  · rw [Nat.add_assoc]; exact hc _ _ (hg 1 (by omega))
  · rw [Nat.add_assoc]; exact hc _ _ (hg 2 (by omega))
  · rw [Nat.add_assoc]; exact hc _ _ (hg 3 (by omega))

set_option maxRecDepth 100000 in
set_option maxHeartbeats 1000000 in
theorem refSame22B_any (A B : Option Addr) (c d : Nat) (L M : List EV) (w : World) (h : EsR w A L) (h' : EsB w B M) :
    Calls Tryz.prog 32 #[.slice A L.length c, .slice B M.length d] w fun e w' => e = .returned (.bool (decide (L.map EV.pl = M.map EV.pl))) ∧ Below w.heap.size w w' := by
  obtain ⟨R, hR⟩ : ∃ R, R = decide (L.map EV.pl = M.map EV.pl) := ⟨_, rfl⟩
  rw [← hR]
  have HR := Lib.hid hR
  have HL := Lib.hid h
  have HM := Lib.hid h'
  have hlen := h.len
  clear h h' hR
  by_cases hn : L.length = M.length
  · have HN := Lib.hid hn
    have hlm := HM.out.len
    go_enter Tryz.func32, Tryz.ntmps32
    go_wp2_with fail
    go_loopw [5] (fun iv wr => ∃ i : Nat, i ≤ L.length ∧ iv = .int .i64 (i : Int) ∧ Hid ((L.take i).map EV.pl = (M.take i).map EV.pl) ∧ Below w.heap.size w wr) (fun iv _ => L.length - (intOf iv).toNat)
    case atStart => exact ⟨0, Nat.zero_le _, rfl, rfl, Below.refl _ _⟩
    case round =>
      obtain ⟨i, hi, rfl, hz, hb⟩ := hrel
      by_cases hlt : i < L.length
      · have hltm : i < M.length := by omega
        obtain ⟨b, off, hA, hb1, c0, c1, c2, c3⟩ := (HL.out.below hb).at_ hlt
        obtain ⟨b2, off2, hB, hb2, d0, d1, d2, d3⟩ := (HM.out.below hb).at_ hltm
        subst hA
        subst hB
        have hx2 := Lib.hid ((HL.out.below hb).ok _ (List.getElem_mem hlt))
        have hy2 := Lib.hid ((HM.out.below hb).ok _ (List.getElem_mem hltm))
        have hs1 := Lib.hid (pl_snoc L i hlt)
        have hs2 := Lib.hid (pl_snoc M i hltm)
        have hg1 := Lib.hid (pl_get L i hlt)
        have hg2 := Lib.hid (pl_get M i hltm)
        generalize L[i] = x at *
        generalize M[i] = y at *
        obtain ⟨sm, hsm⟩ : ∃ sm, sm = decide (x.pl = y.pl) := ⟨_, rfl⟩
        have HC : Hid (∀ W, Below wr.heap.size wr W → Calls Tryz.prog 75 #[.agg #[.string x.p, .int .u64 x.v, .int .i64 x.k, .slice x.x.A x.x.l.length x.x.c], .agg #[.string y.p, .int .u64 y.v, .int .i64 y.k, .slice y.x.A y.x.l.length y.x.c]] W fun e w' => e = .returned (.bool sm) ∧ Below W.heap.size W w') := Lib.hid (fun W hW => by
          rw [hsm, ← sameE_pl]
          exact refEntrySame_any _ _ _ _ _ _ _ _ _ _ _ _ _ _ W (hx2.out.below hW).1 (hy2.out.below hW))
        have HSM := Lib.hid hsm
        clear hsm
        go_upto_region 6 with (fail)
        cases sm
        · obtain rfl : R = false := by
            rw [HR.out, decide_eq_false_iff_not]
            intro e
            have e2 := hg1.out
            rw [e, hg2.out] at e2
            injection e2 with e2
            have := HSM.out
            rw [e2] at this
            simp at this
          refine wp_region_b 10 (by kernel_rfl) (by kernel_rfl) ?_
          simp only [List.take_succ_cons, List.take_zero, List.drop_succ_cons, List.drop_zero]
          refine lb_move _ (by kernel_rfl) rfl ⟨_, (by ((try simp [go_sem]); (try rfl); done)), _, (by (simp only [Act.put, List.setIfInBounds_toArray, List.set_cons_zero, List.set_cons_succ]; rfl)), ?_⟩
          refine lb_move _ (by kernel_rfl) rfl ⟨_, (by ((try simp [go_sem]); (try rfl); done)), _, (by (simp only [Act.put, List.setIfInBounds_toArray, List.set_cons_zero, List.set_cons_succ]; rfl)), ?_⟩
          refine lb_val (by kernel_rfl) ⟨_, (by (intro w' hC; clear hC; (try go_simp); (try with_reducible rfl); done)), _, (by (simp only [Act.put, List.setIfInBounds_toArray, List.set_cons_zero, List.set_cons_succ]; rfl)), ?_⟩
          refine lb_val (by kernel_rfl) ⟨_, (by (intro w' hC; (have q0 := cellAt hC hb1 c0; have q1 := cellAt hC hb1 c1; have q2 := cellAt hC hb1 c2; have q3 := cellAt hC hb1 c3); clear hC; (try go_simp); (try with_reducible rfl); done)), _, (by (simp only [Act.put, List.setIfInBounds_toArray, List.set_cons_zero, List.set_cons_succ]; rfl)), ?_⟩
          refine lb_move _ (by kernel_rfl) rfl ⟨_, (by ((try simp [go_sem]); (try rfl); done)), _, (by (simp only [Act.put, List.setIfInBounds_toArray, List.set_cons_zero, List.set_cons_succ]; rfl)), ?_⟩
          refine lb_move _ (by kernel_rfl) rfl ⟨_, (by ((try simp [go_sem]); (try rfl); done)), _, (by (simp only [Act.put, List.setIfInBounds_toArray, List.set_cons_zero, List.set_cons_succ]; rfl)), ?_⟩
          refine lb_val (by kernel_rfl) ⟨_, (by (intro w' hC; clear hC; (try go_simp); (try with_reducible rfl); done)), _, (by (simp only [Act.put, List.setIfInBounds_toArray, List.set_cons_zero, List.set_cons_succ]; rfl)), ?_⟩
          refine lb_val (by kernel_rfl) ⟨_, (by (intro w' hC; (have q0 := cellAt hC hb2 d0; have q1 := cellAt hC hb2 d1; have q2 := cellAt hC hb2 d2; have q3 := cellAt hC hb2 d3); clear hC; (try go_simp); (try with_reducible rfl); done)), _, (by (simp only [Act.put, List.setIfInBounds_toArray, List.set_cons_zero, List.set_cons_succ]; rfl)), ?_⟩
          refine lb_call (by kernel_rfl) (fun w' hC => HC.out w' hC) (by (intro w'; go_simp; done)) ⟨_, (by (simp only [Act.put, List.setIfInBounds_toArray, List.set_cons_zero, List.set_cons_succ]; rfl)), ?_⟩
          refine lb_val (by kernel_rfl) ⟨_, (by (intro w' hC; clear hC; (try go_simp); (try with_reducible rfl); done)), _, (by (simp only [Act.put, List.setIfInBounds_toArray, List.set_cons_zero, List.set_cons_succ]; rfl)), ?_⟩
          refine .nil ?_
          intro w2 hb3
          have hw2 := hb.trans (hb3.mono hb.size)
          clear c0 c1 c2 c3 d0 d1 d2 d3
          go_wp2_with fail
          go_ret
          exact ⟨rfl, hw2⟩
        · have HN2 : Hid ((L.take (i + 1)).map EV.pl = (M.take (i + 1)).map EV.pl) := by
            show _ = _
            have := HSM.out
            rw [eq_comm, decide_eq_true_eq] at this
            rw [hs1.out, hs2.out, hz.out, this]
          refine wp_region_b 10 (by kernel_rfl) (by kernel_rfl) ?_
          simp only [List.take_succ_cons, List.take_zero, List.drop_succ_cons, List.drop_zero]
          refine lb_move _ (by kernel_rfl) rfl ⟨_, (by ((try simp [go_sem]); (try rfl); done)), _, (by (simp only [Act.put, List.setIfInBounds_toArray, List.set_cons_zero, List.set_cons_succ]; rfl)), ?_⟩
          refine lb_move _ (by kernel_rfl) rfl ⟨_, (by ((try simp [go_sem]); (try rfl); done)), _, (by (simp only [Act.put, List.setIfInBounds_toArray, List.set_cons_zero, List.set_cons_succ]; rfl)), ?_⟩
          refine lb_val (by kernel_rfl) ⟨_, (by (intro w' hC; clear hC; (try go_simp); (try with_reducible rfl); done)), _, (by (simp only [Act.put, List.setIfInBounds_toArray, List.set_cons_zero, List.set_cons_succ]; rfl)), ?_⟩
          refine lb_val (by kernel_rfl) ⟨_, (by (intro w' hC; (have q0 := cellAt hC hb1 c0; have q1 := cellAt hC hb1 c1; have q2 := cellAt hC hb1 c2; have q3 := cellAt hC hb1 c3); clear hC; (try go_simp); (try with_reducible rfl); done)), _, (by (simp only [Act.put, List.setIfInBounds_toArray, List.set_cons_zero, List.set_cons_succ]; rfl)), ?_⟩
          refine lb_move _ (by kernel_rfl) rfl ⟨_, (by ((try simp [go_sem]); (try rfl); done)), _, (by (simp only [Act.put, List.setIfInBounds_toArray, List.set_cons_zero, List.set_cons_succ]; rfl)), ?_⟩
          refine lb_move _ (by kernel_rfl) rfl ⟨_, (by ((try simp [go_sem]); (try rfl); done)), _, (by (simp only [Act.put, List.setIfInBounds_toArray, List.set_cons_zero, List.set_cons_succ]; rfl)), ?_⟩
          refine lb_val (by kernel_rfl) ⟨_, (by (intro w' hC; clear hC; (try go_simp); (try with_reducible rfl); done)), _, (by (simp only [Act.put, List.setIfInBounds_toArray, List.set_cons_zero, List.set_cons_succ]; rfl)), ?_⟩
          refine lb_val (by kernel_rfl) ⟨_, (by (intro w' hC; (have q0 := cellAt hC hb2 d0; have q1 := cellAt hC hb2 d1; have q2 := cellAt hC hb2 d2; have q3 := cellAt hC hb2 d3); clear hC; (try go_simp); (try with_reducible rfl); done)), _, (by (simp only [Act.put, List.setIfInBounds_toArray, List.set_cons_zero, List.set_cons_succ]; rfl)), ?_⟩
          refine lb_call (by kernel_rfl) (fun w' hC => HC.out w' hC) (by (intro w'; go_simp; done)) ⟨_, (by (simp only [Act.put, List.setIfInBounds_toArray, List.set_cons_zero, List.set_cons_succ]; rfl)), ?_⟩
          refine lb_val (by kernel_rfl) ⟨_, (by (intro w' hC; clear hC; (try go_simp); (try with_reducible rfl); done)), _, (by (simp only [Act.put, List.setIfInBounds_toArray, List.set_cons_zero, List.set_cons_succ]; rfl)), ?_⟩
          refine .nil ?_
          intro w2 hb3
          have hw2 := hb.trans (hb3.mono hb.size)
          clear c0 c1 c2 c3 d0 d1 d2 d3
          go_wp2_with fail
          go_roundw
          case rel => exact ⟨i + 1, hlt, by go_num, HN2, hw2⟩
          case measure => simp [intOf]; omega
      · have e : i = L.length := by omega
        subst e
        obtain rfl : R = true := by
          rw [HR.out, decide_eq_true_eq]
          have := hz.out
          rw [List.take_length, HN.out, List.take_length] at this
          exact this
        clear hz
        go_wp2_with fail
        go_ret
        exact ⟨rfl, hb⟩
  · obtain rfl : R = false := by
      rw [HR.out, decide_eq_false_iff_not]
      intro e
      have := congrArg List.length e
      rw [List.length_map, List.length_map] at this
      exact hn this
    have hne : ((L.length : Int) != (M.length : Int)) = true := by simp; omega
    have hlm := HM.out.len
    go_enter Tryz.func32, Tryz.ntmps32
    go_wp2_with fail
    go_ret
    exact ⟨rfl, Below.refl _ _⟩
theorem refSame22_any (A B : Option Addr) (c d : Nat) (L M : List EV) (w : World) (h : EsR w A L) (h' : EsR w B M) :
    Calls Tryz.prog 32 #[.slice A L.length c, .slice B M.length d] w fun e w' => e = .returned (.bool (decide (L.map EV.pl = M.map EV.pl))) ∧ Below w.heap.size w w' := refSame22B_any A B c d L M w h h'.esb
end Go.Proofs.YtdnljmncdbcgeaaGreat

/- book: New, Clone. -/
namespace Go.Proofs.YtdnljmncdbcgeaaGreat
open Go.RowKit Go.Maps Go.Shelf

theorem bookNew_any (w : World) : Calls Tryz.prog 50 #[] w fun e w' => ∃ bb, e = .returned (.pointer (some ⟨bb, 0, none⟩)) ∧ BookAt w' bb none [] 0 ∧ w.heap.size ≤ bb ∧ Below w.heap.size w w' := by
  have x0 := Blk.new w 119 #[.int .u64 0, .map none]
  go_enter Tryz.func50, Tryz.ntmps50
  go_wp2_with fail
  go_ret
  exact ⟨w.heap.size, rfl, ⟨x0, .inl ⟨rfl, rfl⟩, by simp, BookOk.nil⟩, Nat.le_refl _, (by repeat (first | exact Below.refl _ _ | refine Below.alloc ?_ (by simp) _ | refine Below.setCell ?_ (by simp) _ | refine Below.drew ?_))⟩
theorem cloneB_any {b : Nat} {L : List (List UInt8 × Value)} {w : World} (h : MapAt w Tryz.prog 9 b L) :
    Calls Tryz.prog 56 #[.map (some b)] w fun e w' => e = .returned (.map (some w.heap.size)) ∧ MapAt w' Tryz.prog 9 w.heap.size L ∧ Below w.heap.size w w' := by
  obtain ⟨D, h1, h2⟩ := h.own
  have := AnyW.maps_Clone_owns Tryz.cloneB 9 heldR b L.length D w h1
  change Calls Tryz.prog 56 _ _ _ at this
  refine this.mono ?_
  rintro e w' ⟨rfl, k1, k2, k3⟩
  exact ⟨rfl, ⟨h.sort, ⟨D, k1, h2⟩, h.len⟩, k3⟩
theorem cloneB_nil (w : World) : Calls Tryz.prog 56 #[.map none] w fun e w' => e = .returned (.map none) ∧ w' = w := AnyW.maps_Clone_nil Tryz.cloneB w
theorem bookClone_nil (w : World) : Calls Tryz.prog 25 #[.pointer none] w fun e w' => e = .returned (.pointer none) ∧ w = w' := by
  go_enter Tryz.func25, Tryz.ntmps25
  go_wp2_with fail
  go_ret
  exact ⟨rfl, rfl⟩
/-- the map of a book, cloned -/
theorem BookAt.clone {w : World} {bb : Nat} {mo : Option Nat} {L : List (List UInt8 × EV)} {s : Int} (h : BookAt w bb mo L s) :
    Calls Tryz.prog 56 #[.map mo] w fun e w' => (∃ mo', e = .returned (.map mo') ∧ ((mo' = none ∧ L = []) ∨ ∃ mb, mo' = some mb ∧ MapAt w' Tryz.prog 9 mb (mapB L) ∧ w.heap.size ≤ mb)) ∧ Below w.heap.size w w' := by
  rcases h.map with ⟨rfl, hL⟩ | ⟨mb, rfl, hm⟩
  · refine (cloneB_nil w).mono ?_
    rintro e w' ⟨rfl, rfl⟩
    exact ⟨⟨none, rfl, .inl ⟨rfl, hL⟩⟩, Below.refl _ _⟩
  · refine (cloneB_any hm).mono ?_
    rintro e w' ⟨rfl, h1, h2⟩
    exact ⟨⟨_, rfl, .inr ⟨_, rfl, h1, Nat.le_refl _⟩⟩, h2⟩

set_option maxRecDepth 100000 in
set_option maxHeartbeats 1000000 in
theorem bookClone_any (bb : Nat) (mo : Option Nat) (L : List (List UInt8 × EV)) (s : Int) (w : World) (h : BookAt w bb mo L s) :
    Calls Tryz.prog 25 #[.pointer (some ⟨bb, 0, none⟩)] w fun e w' => ∃ cb mo', e = .returned (.pointer (some ⟨cb, 0, none⟩)) ∧ BookAt w' cb mo' L s ∧ w.heap.size ≤ cb ∧ (∀ mb, mo' = some mb → w.heap.size ≤ mb ∧ mb ≠ cb) ∧ Below w.heap.size w w' := by
  have b0 := h.blk
  have HB := Lib.hid h
  clear h
  go_enter Tryz.func25, Tryz.ntmps25
  go_wp2_with fail
  refine wp_region_m [true, true, true, true, true, true, true, true, false, true] (fun W => Below w.heap.size w W) (by kernel_rfl) (by kernel_rfl) ?_
  simp only [List.length_cons, List.length_nil, Nat.zero_add, Nat.reduceAdd, List.take_succ_cons, List.take_zero, List.drop_succ_cons, List.drop_zero]
  refine mx_move _ (by kernel_rfl) rfl ⟨_, (by ((try simp [go_sem]); (try rfl); done)), _, (by (simp only [Act.put, List.setIfInBounds_toArray, List.set_cons_zero, List.set_cons_succ]; rfl)), ?_⟩
  refine mx_val (by kernel_rfl) ⟨_, (by (intro w' hC; clear hC; (try go_simp); (try with_reducible rfl); done)), _, (by (simp only [Act.put, List.setIfInBounds_toArray, List.set_cons_zero, List.set_cons_succ]; rfl)), ?_⟩
  refine mx_val (by kernel_rfl) ⟨_, (by (intro w' hC; clear hC; (try go_simp); (try with_reducible rfl); done)), _, (by (simp only [Act.put, List.setIfInBounds_toArray, List.set_cons_zero, List.set_cons_succ]; rfl)), ?_⟩
  refine mx_val (by kernel_rfl) ⟨_, (by (intro w' hC; (have q := (b0.below hC).cell 0; simp only [List.getElem?_toArray, List.getElem?_cons_zero] at q); clear hC; (try go_simp); (try with_reducible rfl); done)), _, (by (simp only [Act.put, List.setIfInBounds_toArray, List.set_cons_zero, List.set_cons_succ]; rfl)), ?_⟩
  refine mx_move _ (by kernel_rfl) rfl ⟨_, (by ((try simp [go_sem]); (try rfl); done)), _, (by (simp only [Act.put, List.setIfInBounds_toArray, List.set_cons_zero, List.set_cons_succ]; rfl)), ?_⟩
  refine mx_val (by kernel_rfl) ⟨_, (by (intro w' hC; clear hC; (try go_simp); (try with_reducible rfl); done)), _, (by (simp only [Act.put, List.setIfInBounds_toArray, List.set_cons_zero, List.set_cons_succ]; rfl)), ?_⟩
  refine mx_val (by kernel_rfl) ⟨_, (by (intro w' hC; clear hC; (try go_simp); (try with_reducible rfl); done)), _, (by (simp only [Act.put, List.setIfInBounds_toArray, List.set_cons_zero, List.set_cons_succ]; rfl)), ?_⟩
  refine mx_val (by kernel_rfl) ⟨_, (by (intro w' hC; (have q := (b0.below hC).cell 1; simp only [List.getElem?_toArray, List.getElem?_cons_zero, List.getElem?_cons_succ] at q); clear hC; (try go_simp); (try with_reducible rfl); done)), _, (by (simp only [Act.put, List.setIfInBounds_toArray, List.set_cons_zero, List.set_cons_succ]; rfl)), ?_⟩
  refine mx_call ((Below.refl _ _).drew) (by kernel_rfl) ?_ ((HB.out.below (Below.refl _ _).drew).clone) ?_
  · (go_simp; done)
  rintro e w1 ⟨⟨mo', rfl, hmo⟩, hb1⟩
  have hb : Below w.heap.size w w1 := (Below.refl _ _).drew.trans (hb1.mono (Nat.le_refl _))
  refine ⟨_, rfl, _, (by (simp only [Act.put, List.setIfInBounds_toArray, List.set_cons_zero, List.set_cons_succ]; rfl)), ?_⟩
  refine mx_val (by kernel_rfl) ⟨_, (by (intro w' hC; clear hC; (try go_simp); (try with_reducible rfl); done)), _, (by (simp only [Act.put, List.setIfInBounds_toArray, List.set_cons_zero, List.set_cons_succ]; rfl)), ?_⟩
  refine mx_end hb ?_
  have x0 := Blk.new w1 119 #[.int .u64 s, .map mo']
  have hba : Below w1.heap.size w1 (w1.alloc (.cells #[.int .u64 s, .map mo'] 119)) := (Below.refl _ _).alloc (Nat.le_refl _) _
  have hw2 := hb.trans (hba.mono hb.size)
  have HN : Hid (BookAt (w1.alloc (.cells #[.int .u64 s, .map mo'] 119)) w1.heap.size mo' L s) := Lib.hid ⟨x0, by
    rcases hmo with h1 | ⟨mb, e, hm, _⟩
    · exact .inl h1
    · exact .inr ⟨mb, e, hm.block (hba.block mb hm.lt)⟩, fun x hx => (HB.out.ok x hx).below hw2, HB.out.plain⟩
  have HMO : Hid (∀ mb, mo' = some mb → w.heap.size ≤ mb ∧ mb ≠ w1.heap.size) := Lib.hid (fun mb e => by
    rcases hmo with ⟨h1, _⟩ | ⟨mb', e', hm, hg⟩
    · rw [h1] at e; cases e
    · rw [e'] at e
      injection e with e
      subst e
      refine ⟨?_, ?_⟩
      · simpa using hg
      · have := hm.lt; omega)
  have hs := hb.size
  clear hmo hb1 b0 x0 hba
  go_wp2_with fail
  go_ret
  exact ⟨_, mo', rfl, HN.out, hs, HMO.out, hw2⟩

end Go.Proofs.YtdnljmncdbcgeaaGreat
