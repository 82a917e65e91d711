/- tenderref22: Put. -/
import Derived.Test.YtkeledbgmpienaaGreatA10

namespace Go.Proofs.YtkeledbgmpienaaGreat
open Go.RowKit

theorem without_mem {M : List EV} {p : ByteArray} {x : EV} (h : x ∈ withoutE p M) : x ∈ M := (List.mem_filter.1 h).1
theorem mem_insE {x y : EV} {M : List EV} (h : y ∈ insE x M) : y = x ∨ y ∈ M := by
  unfold insE at h
  obtain ⟨z, hz, rfl⟩ := List.mem_map.1 h
  rcases mem_ins.1 hz with rfl | hz
  · exact .inl rfl
  · obtain ⟨q, hq, rfl⟩ := List.mem_map.1 hz
    exact .inr hq
theorem insE_len (x : EV) (M : List EV) : (insE x M).length = M.length + 1 := by
  unfold insE
  rw [List.length_map, ins_len]
  simp [keyE]
/-- the index of the spare one among the first ones -/
def BestE (M : List EV) (i : Nat) (b : Int) : Prop := (b = -1 ∧ spareB ((M.take i).map EV.pl) = none) ∨ ∃ (j : Nat) (hj : j < M.length), b = (j : Int) ∧ j < i ∧ spareB ((M.take i).map EV.pl) = some M[j].pl
theorem BestE.start (M : List EV) : BestE M 0 (-1) := .inl ⟨rfl, rfl⟩
theorem best_snoc {M : List EV} {i : Nat} (hi : i < M.length) : spareB ((M.take (i + 1)).map EV.pl) = match spareB ((M.take i).map EV.pl) with
    | none => if M[i].k = 0 then some M[i].pl else none
    | some y => if M[i].k = 0 ∧ M[i].v < y.2.1 then some M[i].pl else some y := by
  rw [List.take_succ_eq_append_getElem hi, List.map_append, List.map_cons, List.map_nil, spareB_snoc]
  rfl
theorem BestE.keep {M : List EV} {i : Nat} {b : Int} (h : BestE M i b) (hi : i < M.length) (hk : M[i].k ≠ 0 ∨ ∃ (j : Nat) (hj : j < M.length), b = (j : Int) ∧ ¬ M[i].v < M[j].v) : BestE M (i + 1) b := by
  rcases h with ⟨rfl, h⟩ | ⟨j, hj, rfl, hji, h⟩
  · refine .inl ⟨rfl, ?_⟩
    rw [best_snoc hi, h]
    dsimp only
    rcases hk with hk | ⟨j, hj, e, _⟩
    · rw [if_neg hk]
    · omega
  · refine .inr ⟨j, hj, rfl, by omega, ?_⟩
    rw [best_snoc hi, h]
    dsimp only
    rw [if_neg]
    rintro ⟨h1, h2⟩
    rcases hk with hk | ⟨j2, hj2, e, hn⟩
    · exact hk h1
    · obtain rfl : j = j2 := by omega
      exact hn h2
theorem BestE.take {M : List EV} {i : Nat} {b : Int} (h : BestE M i b) (hi : i < M.length) (hk : M[i].k = 0) (h2 : b = -1 ∨ ∃ (j : Nat) (hj : j < M.length), b = (j : Int) ∧ M[i].v < M[j].v) : BestE M (i + 1) (i : Int) := by
  refine .inr ⟨i, hi, rfl, by omega, ?_⟩
  rw [best_snoc hi]
  rcases h with ⟨rfl, h⟩ | ⟨j, hj, rfl, hji, h⟩
  · rw [h]
    dsimp only
    rw [if_pos hk]
  · rw [h]
    dsimp only
    rw [if_pos]
    rcases h2 with h2 | ⟨j2, hj2, e, hn⟩
    · omega
    · obtain rfl : j = j2 := by omega
      exact ⟨hk, hn⟩

/-- entries do not lie where a document's book stands -/
theorem EsR.notBook {w w' : World} {A : Option Addr} {M : List EV} {g : Nat} {u : Int} {v : Value} {t : TypeId} (h : EsR w A M) (hb : Blk w g t #[.int .u64 u, v]) (hv : ∀ q, v ≠ .string q) (hv2 : ∀ q, v ≠ .int .u8 q) (k : Fr (fun x => x = g) w w') : EsR w' A M := by
  have hy : ∀ {A : Option Addr} {l : List UInt8}, By w (fun _ => True) A l → By w (fun b => b ≠ g) A l := fun {A l} h => by
    refine ⟨h.1, fun hn => ?_⟩
    obtain ⟨b, off, e, hz, hlt, hc⟩ := h.2 hn
    refine ⟨b, off, e, fun eb => ?_, hlt, hc⟩
    subst eb
    rcases l with _ | ⟨x, l⟩
    · simp at hn
    · have h1 := hc 0 (bv x) rfl
      rw [hb.cell, Nat.add_zero] at h1
      rcases off with _ | _ | off
      · simp [bv] at h1
      · simp [bv] at h1; exact hv2 _ h1
      · simp [bv] at h1
  have hr : Rd w (fun b => b ≠ g) 4 A M.length (M.flatMap EV.cells) := by
    refine ⟨h.rd.1, fun hn => ?_⟩
    obtain ⟨b, off, e, hz, hlt, hc⟩ := h.rd.2 hn
    refine ⟨b, off, e, fun eb => ?_, hlt, hc⟩
    subst eb
    rcases M with _ | ⟨x, M⟩
    · simp at hn
    · have h1 := hc 0 (.string x.p) rfl
      rw [hb.cell, Nat.add_zero] at h1
      rcases off with _ | _ | off
      · simp at h1
      · simp at h1; exact hv _ h1
      · simp at h1
  exact ⟨(hr.fr k (fun b _ hz e => hz e)).mono (fun _ _ _ => trivial), fun x hx => ⟨((hy (h.ok x hx).1).fr k (fun b _ hz e => hz e)).mono (fun _ _ _ => trivial), (h.ok x hx).2⟩, h.len⟩


set_option maxRecDepth 100000 in
set_option maxHeartbeats 4000000 in
theorem refPut22_any (A : Option Addr) (c : Nat) (M : List EV) (s : Int) (x : EV) (w : World) (h : EsR w A M) (hx : x.x.ok w (fun _ => True)) (hn : x.x.l.length ≤ 140737488355328) (hv : 0 ≤ x.v ∧ x.v < 18446744073709551616) (hp : x.p.size ≤ 1048576) (hok : BookOk (M.map EV.pl)) :
    Calls Tryz.prog 7 #[.agg #[.int .u64 s, .slice A M.length c], .agg #[.string x.p, .int .u64 x.v, .int .i64 x.k, .slice x.x.A x.x.l.length x.x.c]] w fun e w' => (∃ (A' : Option Addr) (c' : Nat) (M' : List EV), e = .returned (.tuple #[.agg #[.int .u64 s, .slice A' M'.length c'], .int .i64 (putP (M.map EV.pl) (tl x.p) x.ep).2]) ∧ Hid (M'.map EV.pl = (putP (M.map EV.pl) (tl x.p) x.ep).1) ∧ EsR w' A' M') ∧ Below w.heap.size w w' := by
  obtain ⟨R, hR⟩ : ∃ R, R = putP (M.map EV.pl) (tl x.p) x.ep := ⟨_, rfl⟩
  rw [← hR]
  obtain ⟨T, E⟩ := R
  dsimp only
  have HR := Lib.hid hR
  have hW : Below w.heap.size w (((w.alloc (.cells #[.int .u64 s, .slice A M.length c] 32)).alloc (.cells #[.string x.p, .int .u64 x.v, .int .i64 x.k, .slice x.x.A x.x.l.length x.x.c] 41)).alloc (.cells #[.int .u64 0, .slice none 0 0] 32)) := (((Below.refl _ _).alloc (Nat.le_refl _) _).alloc (by simp) _).alloc (by simp; omega) _
  have y0 : Blk (((w.alloc (.cells #[.int .u64 s, .slice A M.length c] 32)).alloc (.cells #[.string x.p, .int .u64 x.v, .int .i64 x.k, .slice x.x.A x.x.l.length x.x.c] 41)).alloc (.cells #[.int .u64 0, .slice none 0 0] 32)) w.heap.size 32 #[.int .u64 s, .slice A M.length c] := ((Blk.new w 32 #[.int .u64 s, .slice A M.length c]).below ((Below.refl _ _).alloc (Nat.le_refl _) _)).below ((Below.refl _ _).alloc (Nat.le_refl _) _)
  have y1 : Blk (((w.alloc (.cells #[.int .u64 s, .slice A M.length c] 32)).alloc (.cells #[.string x.p, .int .u64 x.v, .int .i64 x.k, .slice x.x.A x.x.l.length x.x.c] 41)).alloc (.cells #[.int .u64 0, .slice none 0 0] 32)) (w.heap.size + 1) 41 #[.string x.p, .int .u64 x.v, .int .i64 x.k, .slice x.x.A x.x.l.length x.x.c] := by
    have := (Blk.new (w.alloc (.cells #[.int .u64 s, .slice A M.length c] 32)) 41 #[.string x.p, .int .u64 x.v, .int .i64 x.k, .slice x.x.A x.x.l.length x.x.c]).below ((Below.refl _ _).alloc (Nat.le_refl _) (.cells #[.int .u64 0, .slice none 0 0] 32))
    rwa [show (w.alloc (.cells #[.int .u64 s, .slice A M.length c] 32)).heap.size = w.heap.size + 1 by simp] at this
  have y2 : Blk (((w.alloc (.cells #[.int .u64 s, .slice A M.length c] 32)).alloc (.cells #[.string x.p, .int .u64 x.v, .int .i64 x.k, .slice x.x.A x.x.l.length x.x.c] 41)).alloc (.cells #[.int .u64 0, .slice none 0 0] 32)) (w.heap.size + 2) 32 #[.int .u64 0, .slice none 0 0] := by
    have := Blk.new ((w.alloc (.cells #[.int .u64 s, .slice A M.length c] 32)).alloc (.cells #[.string x.p, .int .u64 x.v, .int .i64 x.k, .slice x.x.A x.x.l.length x.x.c] 41)) 32 #[.int .u64 0, .slice none 0 0]
    rwa [show ((w.alloc (.cells #[.int .u64 s, .slice A M.length c] 32)).alloc (.cells #[.string x.p, .int .u64 x.v, .int .i64 x.k, .slice x.x.A x.x.l.length x.x.c] 41)).heap.size = w.heap.size + 2 by simp] at this
  have HE := Lib.hid h
  have HXO := Lib.hid hx
  have HOK := Lib.hid hok
  have hMl : M.length ≤ 256 := by have := hok.len; simpa using this
  have HMP : Hid (∀ y ∈ M, y.p.size ≤ 1048576) := Lib.hid (fun y hy => by
    have := goodB_len (userB_good (checkP_good (hok.good y.pl (List.mem_map.2 ⟨y, hy, rfl⟩))).1)
    have h2 := tl_len y.p
    have h3 : y.pl.1 = tl y.p := rfl
    rw [h3] at this
    omega)
  obtain ⟨C, hC⟩ : ∃ C, C = checkP (tl x.p) x.ep := ⟨_, rfl⟩
  have HCK := Lib.hid (fun W => refEntryCheck_any x.p x.v x.k x.x.A x.x.l.length x.x.c W (by omega) hv hn)
  rw [show checkE (tl x.p) x.v x.k x.x.l.length = C from hC.symm] at HCK
  have HC := Lib.hid hC
  clear h hx hR hC hok
  go_enter Tryz.func7, Tryz.ntmps7
  go_upto_region 1 with (fail)
  generalize (((w.alloc (.cells #[.int .u64 s, .slice A M.length c] 32)).alloc (.cells #[.string x.p, .int .u64 x.v, .int .i64 x.k, .slice x.x.A x.x.l.length x.x.c] 41)).alloc (.cells #[.int .u64 0, .slice none 0 0] 32)) = w1 at *
  have q0 := y1.cell 0
  have q1 := y1.cell 1
  have q2 := y1.cell 2
  have q3 := y1.cell 3
  simp only [List.getElem?_toArray, List.getElem?_cons_zero, List.getElem?_cons_succ] at q0 q1 q2 q3
  go_wp2_with fail
  refine (HCK.out _).mono ?_
  rintro e w2 ⟨rfl, hb2⟩
  replace y0 := y0.below hb2
  replace y1 := y1.below hb2
  replace y2 := y2.below hb2
  replace hW := hW.trans (hb2.mono hW.size)
  clear HCK hb2 q0 q1 q2 q3
  by_cases hC0 : C = 0
  · have hCb : (C != 0) = false := by simp [hC0]
    have HC0 := Lib.hid hC0
    clear hC0
    have HR1 : Hid ((T, E) = if x.v ≤ ((getR (M.map EV.pl) (tl x.p)).map (·.1)).getD 0 then (M.map EV.pl, (31 : Int)) else if (getR (M.map EV.pl) (tl x.p)).isNone = true ∧ 256 ≤ (M.map EV.pl).length then ((spareB (M.map EV.pl)).elim (M.map EV.pl, (24 : Int)) fun y => (putR (withoutR (M.map EV.pl) y.1) (tl x.p) x.ep, (0 : Int))) else (putR (M.map EV.pl) (tl x.p) x.ep, (0 : Int))) := Lib.hid (by
      rw [HR.out]
      unfold putP putB
      rw [if_neg (by rw [← HC.out, HC0.out]; simp)]
      rfl)
    rw [← find_ver, List.length_map] at HR1
    clear HR HC HC0
    have HG := Lib.hid (refGet22_any A c M s x.p w2 (HE.out.below hW))
    have p0 := y0.cell 0
    have p1 := y0.cell 1
    simp only [List.getElem?_toArray, List.getElem?_cons_zero, List.getElem?_cons_succ] at p0 p1
    have q0 := y1.cell 0
    simp only [List.getElem?_toArray, List.getElem?_cons_zero] at q0
    go_wp2_with fail
    refine HG.out.mono ?_
    rintro e w3 ⟨⟨o, rfl, ho⟩, hb3⟩
    rw [← ho.out] at HR1
    replace y0 := y0.below hb3
    replace y1 := y1.below hb3
    replace y2 := y2.below hb3
    replace hW := hW.trans (hb3.mono hW.size)
    have hba : Below w3.heap.size w3 (w3.alloc (.cells #[.string o.p, .int .u64 o.v, .int .i64 o.k, .slice o.x.A o.x.l.length o.x.c] 41)) := (Below.refl _ _).alloc (Nat.le_refl _) _
    have y3 := Blk.new w3 41 #[.string o.p, .int .u64 o.v, .int .i64 o.k, .slice o.x.A o.x.l.length o.x.c]
    replace y0 := y0.below hba
    replace y1 := y1.below hba
    replace y2 := y2.below hba
    replace hW := hW.trans (hba.mono hW.size)
    clear p0 p1 q0 hb3 HG ho hCb
    go_upto_region 5 with (fail)
    generalize w3.alloc (.cells #[.string o.p, .int .u64 o.v, .int .i64 o.k, .slice o.x.A o.x.l.length o.x.c] 41) = w4 at *
    have r1 := y3.cell 1
    have q1 := y1.cell 1
    simp only [List.getElem?_toArray, List.getElem?_cons_zero, List.getElem?_cons_succ] at r1 q1
    clear hba y3
    by_cases hov : x.v ≤ o.v
    · have hod : decide (x.v ≤ o.v) = true := decide_eq_true hov
      obtain ⟨hT, rfl⟩ : T = M.map EV.pl ∧ E = 31 := by
        have := HR1.out
        rw [if_pos hov] at this
        simpa using this
      have HT : Hid (M.map EV.pl = T) := Lib.hid hT.symm
      clear HR1 hT
      have p0 := y0.cell 0
      have p1 := y0.cell 1
      simp only [List.getElem?_toArray, List.getElem?_cons_zero, List.getElem?_cons_succ] at p0 p1
      have r0 := y2.cell 0
      have r1 := y2.cell 1
      simp only [List.getElem?_toArray, List.getElem?_cons_zero, List.getElem?_cons_succ] at r0 r1
      have fr := fun o => y2.frozen o
      have K1 := Lib.hid (HE.out.below hW)
      have HY := Lib.hid y2
      go_wp2_with fail
      have kR : Fr (fun x => x = w.heap.size + 2) w4 ((w4.setCell ⟨w.heap.size + 2, 0, none⟩ (.int .u64 s)).setCell ⟨w.heap.size + 2, 1, none⟩ (.slice A M.length c)) := ((Fr.refl (fun x => x = w.heap.size + 2) w4).setAt (w.heap.size + 2) _ rfl _).setAt (w.heap.size + 2) _ rfl _
      have yR := (y2.set_ 0 (.int .u64 s)).set_ 1 (.slice A M.length c)
      simp only [List.setIfInBounds_toArray, List.set_cons_zero, List.set_cons_succ] at yR
      have hwR : Below w.heap.size w ((w4.setCell ⟨w.heap.size + 2, 0, none⟩ (.int .u64 s)).setCell ⟨w.heap.size + 2, 1, none⟩ (.slice A M.length c)) := hW.trans (kR.below (B := w.heap.size) hW.size (fun k hk e => by omega))
      generalize ((w4.setCell ⟨w.heap.size + 2, 0, none⟩ (.int .u64 s)).setCell ⟨w.heap.size + 2, 1, none⟩ (.slice A M.length c)) = wR at *
      have s0 := yR.cell 0
      have s1 := yR.cell 1
      simp only [List.getElem?_toArray, List.getElem?_cons_zero, List.getElem?_cons_succ] at s0 s1
      refine bodyPost_ret (v := .tuple #[.agg #[.int .u64 s, .slice A M.length c], .int .i64 31]) (by simp [results, Tryz.results7, go_sem, s0, s1]) rfl ?_
      exact ⟨⟨A, c, M, rfl, HT.out, K1.out.notBook HY.out (by simp) (by simp) kR⟩, hwR⟩
    · have hod : decide (x.v ≤ o.v) = false := decide_eq_false hov
      have HR2 : Hid ((T, E) = if (getR (M.map EV.pl) (tl x.p)).isNone = true ∧ 256 ≤ M.length then ((spareB (M.map EV.pl)).elim (M.map EV.pl, (24 : Int)) fun y => (putR (withoutR (M.map EV.pl) y.1) (tl x.p) x.ep, (0 : Int))) else (putR (M.map EV.pl) (tl x.p) x.ep, (0 : Int))) := Lib.hid (by rw [HR1.out, if_neg hov])
      clear HR1
      have p0 := y0.cell 0
      have p1 := y0.cell 1
      simp only [List.getElem?_toArray, List.getElem?_cons_zero, List.getElem?_cons_succ] at p0 p1
      have q0 := y1.cell 0
      simp only [List.getElem?_toArray, List.getElem?_cons_zero] at q0
      have HWO := Lib.hid (refWithout22_any A c M x.p w4 (HE.out.below hW))
      go_wp2_with fail
      refine HWO.out.mono ?_
      rintro e w5 ⟨⟨A1, c1, M1, rfl, hM1, ho1⟩, hb5⟩
      replace y0 := y0.below hb5
      replace y1 := y1.below hb5
      replace y2 := y2.below hb5
      replace hW := hW.trans (hb5.mono hW.size)
      have hM1l : M1.length ≤ M.length := by rw [hM1.out]; exact without_lenE _ _
      have HE1 : Hid (EsR w5 A1 M1) := Lib.hid (ho1.esr (fun y hy => by rw [hM1.out] at hy; exact (HE.out.below hW).ok y (without_mem hy)) (by omega))
      have HP1 : Hid (∀ y ∈ M1, y.p.size ≤ 1048576) := Lib.hid (fun y hy => by rw [hM1.out] at hy; exact HMP.out y (without_mem hy))
      have HM1 := Lib.hid hM1.out
      clear HWO ho1 hb5 hM1 p0 p1 q0 q1 r1 hod
      by_cases hlen : 256 ≤ M1.length
      · have hl2 : decide ((256 : Int) ≤ (M1.length : Int)) = true := decide_eq_true (by omega)
        have hgn : getR (M.map EV.pl) (tl x.p) = none := by
          rcases hg : getR (M.map EV.pl) (tl x.p) with _ | z
          · rfl
          · have h1 := HOK.out.sort.without_len hg
            rw [← pl_without, ← HM1.out] at h1
            simp at h1
            omega
        have HPM : Hid (M1.map EV.pl = M.map EV.pl) := Lib.hid (by rw [HM1.out, pl_without, without_self hgn])
        have HR3 : Hid ((T, E) = (spareB (M1.map EV.pl)).elim (M.map EV.pl, (24 : Int)) fun y => (putR (withoutR (M1.map EV.pl) y.1) (tl x.p) x.ep, (0 : Int))) := Lib.hid (by
          rw [HR2.out, if_pos ⟨by rw [hgn]; rfl, by omega⟩, HPM.out])
        have HGN := Lib.hid hgn
        clear HR2 hgn
        go_wp2_with fail
        have hud : undef = Value.tuple #[] := rfl
        go_loopw [9, 10] (fun bv iv wr => ∃ (i : Nat) (b : Int), i ≤ M1.length ∧ iv = .int .i64 (i : Int) ∧ bv = .int .i64 b ∧ BestE M1 i b ∧ Below w5.heap.size w5 wr) (fun _ iv _ => M1.length - (intOf iv).toNat)
        case atStart => exact ⟨0, -1, Nat.zero_le _, rfl, rfl, BestE.start M1, Below.refl _ _⟩
        case round =>
          obtain ⟨i, b, hi, rfl, rfl, hbst, hb⟩ := hrel
          by_cases hlt : i < M1.length
          · obtain ⟨bk, off, hA, hbb, c0, c1', c2, c3⟩ := HE1.out.at_ hlt
            have HX : Hid (∀ W, Below wr.heap.size wr W → W.cell? ⟨bk, off + i * 4, none⟩ = some (.string M1[i].p) ∧ W.cell? ⟨bk, off + i * 4 + 1, none⟩ = some (.int .u64 M1[i].v) ∧ W.cell? ⟨bk, off + i * 4 + 2, none⟩ = some (.int .i64 M1[i].k) ∧ True) := Lib.hid (fun W hW => by
              have hW2 := hb.trans (hW.mono hb.size)
              rw [hW2.cell hbb, hW2.cell hbb, hW2.cell hbb]
              exact ⟨c0, c1', c2, trivial⟩)
            obtain ⟨y, hy⟩ : ∃ y, y = M1[i] := ⟨_, rfl⟩
            have HYI := Lib.hid hy
            rw [← hy] at HX
            have HBST := Lib.hid hbst
            subst hA
            clear c0 c1' c2 c3 hy hbst
            go_upto_region 13 with (fail)
            by_cases hk : y.k = 0
            · have hkb : (y.k == 0) = true := by simpa using hk
              have HK := Lib.hid hk
              clear hk
              rcases HBST.out with ⟨rfl, hbn⟩ | ⟨j, hj, rfl, hji, hbj⟩
              · have HJ : Hid True := trivial
                have hb1 : decide ((-1 : Int) < 0) = true := rfl
                refine wp_region_b 24 (by kernel_rfl) (by kernel_rfl) ?_
                simp only [List.take_succ_cons, List.take_zero, List.drop_succ_cons, List.drop_zero]
                refine lb_move _ (by kernel_rfl) rfl ⟨_, (by ((try simp [go_sem]); (try rfl); done)), _, (by (simp only [Act.put, List.setIfInBounds_toArray, List.set_cons_zero, List.set_cons_succ]; rfl)), ?_⟩
                refine lb_move _ (by kernel_rfl) rfl ⟨_, (by ((try simp [go_sem]); (try rfl); done)), _, (by (simp only [Act.put, List.setIfInBounds_toArray, List.set_cons_zero, List.set_cons_succ]; rfl)), ?_⟩
                refine lb_val (by kernel_rfl) ⟨_, (by (intro w' hC; clear hC; (try go_simp); (try with_reducible rfl); done)), _, (by (simp only [Act.put, List.setIfInBounds_toArray, List.set_cons_zero, List.set_cons_succ]; rfl)), ?_⟩
                refine lb_val (by kernel_rfl) ⟨_, (by (intro w' hC; clear hC; (try go_simp); (try with_reducible rfl); done)), _, (by (simp only [Act.put, List.setIfInBounds_toArray, List.set_cons_zero, List.set_cons_succ]; rfl)), ?_⟩
                refine lb_val (by kernel_rfl) ⟨_, (by (intro w' hC; clear hC; (try go_simp); (try with_reducible rfl); done)), _, (by (simp only [Act.put, List.setIfInBounds_toArray, List.set_cons_zero, List.set_cons_succ]; rfl)), ?_⟩
                refine lb_val (by kernel_rfl) ⟨_, (by (intro w' hC; (have ⟨_, _, c2, _⟩ := HX.out w' hC); clear hC; (try go_simp); (try with_reducible rfl); done)), _, (by (simp only [Act.put, List.setIfInBounds_toArray, List.set_cons_zero, List.set_cons_succ]; rfl)), ?_⟩
                refine lb_val (by kernel_rfl) ⟨_, (by (intro w' hC; clear hC; (try go_simp); (try with_reducible rfl); done)), _, (by (simp only [Act.put, List.setIfInBounds_toArray, List.set_cons_zero, List.set_cons_succ]; rfl)), ?_⟩
                refine lb_move _ (by kernel_rfl) rfl ⟨_, (by ((try simp [go_sem]); (try rfl); done)), _, (by (simp only [Act.put, List.setIfInBounds_toArray, List.set_cons_zero, List.set_cons_succ]; rfl)), ?_⟩
                first | (refine lb_skip (by rfl) ⟨_, (by (simp only [Act.put, List.setIfInBounds_toArray, List.set_cons_zero, List.set_cons_succ]; rfl)), ?_⟩) | (refine lb_move _ (by kernel_rfl) rfl ⟨_, (by ((try simp [go_sem]); (try rfl); done)), _, (by (simp only [Act.put, List.setIfInBounds_toArray, List.set_cons_zero, List.set_cons_succ]; rfl)), ?_⟩)
                first | (refine lb_skip (by rfl) ⟨_, (by (simp only [Act.put, List.setIfInBounds_toArray, List.set_cons_zero, List.set_cons_succ]; rfl)), ?_⟩) | (refine lb_val (by kernel_rfl) ⟨_, (by (intro w' hC; clear hC; (try go_simp); (try with_reducible rfl); done)), _, (by (simp only [Act.put, List.setIfInBounds_toArray, List.set_cons_zero, List.set_cons_succ]; rfl)), ?_⟩)
                first | (refine lb_skip (by rfl) ⟨_, (by (simp only [Act.put, List.setIfInBounds_toArray, List.set_cons_zero, List.set_cons_succ]; rfl)), ?_⟩) | (refine lb_move _ (by kernel_rfl) rfl ⟨_, (by ((try simp [go_sem]); (try rfl); done)), _, (by (simp only [Act.put, List.setIfInBounds_toArray, List.set_cons_zero, List.set_cons_succ]; rfl)), ?_⟩)
                first | (refine lb_skip (by rfl) ⟨_, (by (simp only [Act.put, List.setIfInBounds_toArray, List.set_cons_zero, List.set_cons_succ]; rfl)), ?_⟩) | (refine lb_move _ (by kernel_rfl) rfl ⟨_, (by ((try simp [go_sem]); (try rfl); done)), _, (by (simp only [Act.put, List.setIfInBounds_toArray, List.set_cons_zero, List.set_cons_succ]; rfl)), ?_⟩)
                first | (refine lb_skip (by rfl) ⟨_, (by (simp only [Act.put, List.setIfInBounds_toArray, List.set_cons_zero, List.set_cons_succ]; rfl)), ?_⟩) | (refine lb_move _ (by kernel_rfl) rfl ⟨_, (by ((try simp [go_sem]); (try rfl); done)), _, (by (simp only [Act.put, List.setIfInBounds_toArray, List.set_cons_zero, List.set_cons_succ]; rfl)), ?_⟩)
                first | (refine lb_skip (by rfl) ⟨_, (by (simp only [Act.put, List.setIfInBounds_toArray, List.set_cons_zero, List.set_cons_succ]; rfl)), ?_⟩) | (refine lb_val (by kernel_rfl) ⟨_, (by (intro w' hC; clear hC; (try go_simp); (try with_reducible rfl); done)), _, (by (simp only [Act.put, List.setIfInBounds_toArray, List.set_cons_zero, List.set_cons_succ]; rfl)), ?_⟩)
                first | (refine lb_skip (by rfl) ⟨_, (by (simp only [Act.put, List.setIfInBounds_toArray, List.set_cons_zero, List.set_cons_succ]; rfl)), ?_⟩) | (refine lb_val (by kernel_rfl) ⟨_, (by (intro w' hC; clear hC; (try go_simp); (try with_reducible rfl); done)), _, (by (simp only [Act.put, List.setIfInBounds_toArray, List.set_cons_zero, List.set_cons_succ]; rfl)), ?_⟩)
                first | (refine lb_skip (by rfl) ⟨_, (by (simp only [Act.put, List.setIfInBounds_toArray, List.set_cons_zero, List.set_cons_succ]; rfl)), ?_⟩) | (refine lb_val (by kernel_rfl) ⟨_, (by (intro w' hC; (have ⟨_, c1, _, _⟩ := HX.out w' hC); clear hC; (try go_simp); (try with_reducible rfl); done)), _, (by (simp only [Act.put, List.setIfInBounds_toArray, List.set_cons_zero, List.set_cons_succ]; rfl)), ?_⟩)
                first | (refine lb_skip (by rfl) ⟨_, (by (simp only [Act.put, List.setIfInBounds_toArray, List.set_cons_zero, List.set_cons_succ]; rfl)), ?_⟩) | (refine lb_move _ (by kernel_rfl) rfl ⟨_, (by ((try simp [go_sem]); (try rfl); done)), _, (by (simp only [Act.put, List.setIfInBounds_toArray, List.set_cons_zero, List.set_cons_succ]; rfl)), ?_⟩)
                first | (refine lb_skip (by rfl) ⟨_, (by (simp only [Act.put, List.setIfInBounds_toArray, List.set_cons_zero, List.set_cons_succ]; rfl)), ?_⟩) | (refine lb_move _ (by kernel_rfl) rfl ⟨_, (by ((try simp [go_sem]); (try rfl); done)), _, (by (simp only [Act.put, List.setIfInBounds_toArray, List.set_cons_zero, List.set_cons_succ]; rfl)), ?_⟩)
                first | (refine lb_skip (by rfl) ⟨_, (by (simp only [Act.put, List.setIfInBounds_toArray, List.set_cons_zero, List.set_cons_succ]; rfl)), ?_⟩) | (refine lb_val (by kernel_rfl) ⟨_, (by (intro w' hC; clear hC; (try go_simp); (try with_reducible rfl); done)), _, (by (simp only [Act.put, List.setIfInBounds_toArray, List.set_cons_zero, List.set_cons_succ]; rfl)), ?_⟩)
                first | (refine lb_skip (by rfl) ⟨_, (by (simp only [Act.put, List.setIfInBounds_toArray, List.set_cons_zero, List.set_cons_succ]; rfl)), ?_⟩) | (refine lb_val (by kernel_rfl) ⟨_, (by (intro w' hC; clear hC; (try go_simp); (try with_reducible rfl); done)), _, (by (simp only [Act.put, List.setIfInBounds_toArray, List.set_cons_zero, List.set_cons_succ]; rfl)), ?_⟩)
                first | (refine lb_skip (by rfl) ⟨_, (by (simp only [Act.put, List.setIfInBounds_toArray, List.set_cons_zero, List.set_cons_succ]; rfl)), ?_⟩) | (refine lb_val (by kernel_rfl) ⟨_, (by (intro w' hC; (have ⟨_, d1, _, _⟩ := HJ.out w' hC); clear hC; (try go_simp); (try with_reducible rfl); done)), _, (by (simp only [Act.put, List.setIfInBounds_toArray, List.set_cons_zero, List.set_cons_succ]; rfl)), ?_⟩)
                first | (refine lb_skip (by rfl) ⟨_, (by (simp only [Act.put, List.setIfInBounds_toArray, List.set_cons_zero, List.set_cons_succ]; rfl)), ?_⟩) | (refine lb_val (by kernel_rfl) ⟨_, (by (intro w' hC; clear hC; (try go_simp); (try with_reducible rfl); done)), _, (by (simp only [Act.put, List.setIfInBounds_toArray, List.set_cons_zero, List.set_cons_succ]; rfl)), ?_⟩)
                first | (refine lb_skip (by rfl) ⟨_, (by (simp only [Act.put, List.setIfInBounds_toArray, List.set_cons_zero, List.set_cons_succ]; rfl)), ?_⟩) | (refine lb_val (by kernel_rfl) ⟨_, (by (intro w' hC; clear hC; (try go_simp); (try with_reducible rfl); done)), _, (by (simp only [Act.put, List.setIfInBounds_toArray, List.set_cons_zero, List.set_cons_succ]; rfl)), ?_⟩)
                refine lb_val (by kernel_rfl) ⟨_, (by (intro w' hC; clear hC; (try go_simp); (try with_reducible rfl); done)), _, (by (simp only [Act.put, List.setIfInBounds_toArray, List.set_cons_zero, List.set_cons_succ]; rfl)), ?_⟩
                refine .nil ?_
                intro w6 hb6
                have hb' := hb.trans (hb6.mono hb.size)
                have HBS : Hid (BestE M1 (i + 1) (i : Int)) := Lib.hid (HBST.out.take hlt (by rw [← HYI.out]; exact HK.out) (.inl rfl))
                clear hb6 HX
                go_wp2_with fail
                go_roundw
                case rel => exact ⟨i + 1, (i : Int), hlt, by go_num, rfl, HBS.out, hb'⟩
                case measure => simp [intOf]; omega
              · obtain ⟨z, hz⟩ : ∃ z, z = M1[j] := ⟨_, rfl⟩
                have HZI := Lib.hid hz
                have HJ : Hid (∀ W, Below wr.heap.size wr W → W.cell? ⟨bk, off + j * 4, none⟩ = some (.string z.p) ∧ W.cell? ⟨bk, off + j * 4 + 1, none⟩ = some (.int .u64 z.v) ∧ W.cell? ⟨bk, off + j * 4 + 2, none⟩ = some (.int .i64 z.k) ∧ True) := Lib.hid (fun W hW => by
                  have hW2 := hb.trans (hW.mono hb.size)
                  obtain ⟨bk', off', hA', hbb', e0, e1, e2, _⟩ := HE1.out.at_ hj
                  injection hA' with hA'
                  injection hA' with hA1 hA2
                  subst hA1 hA2
                  rw [hW2.cell hbb', hW2.cell hbb', hW2.cell hbb', hz]
                  exact ⟨e0, e1, e2, trivial⟩)
                have hb1 : decide ((j : Int) < 0) = false := decide_eq_false (by omega)
                clear hz hbj
                by_cases hyz : y.v < z.v
                · have hyd : decide (y.v < z.v) = true := decide_eq_true hyz
                  refine wp_region_b 24 (by kernel_rfl) (by kernel_rfl) ?_
                  simp only [List.take_succ_cons, List.take_zero, List.drop_succ_cons, List.drop_zero]
                  refine lb_move _ (by kernel_rfl) rfl ⟨_, (by ((try simp [go_sem]); (try rfl); done)), _, (by (simp only [Act.put, List.setIfInBounds_toArray, List.set_cons_zero, List.set_cons_succ]; rfl)), ?_⟩
                  refine lb_move _ (by kernel_rfl) rfl ⟨_, (by ((try simp [go_sem]); (try rfl); done)), _, (by (simp only [Act.put, List.setIfInBounds_toArray, List.set_cons_zero, List.set_cons_succ]; rfl)), ?_⟩
                  refine lb_val (by kernel_rfl) ⟨_, (by (intro w' hC; clear hC; (try go_simp); (try with_reducible rfl); done)), _, (by (simp only [Act.put, List.setIfInBounds_toArray, List.set_cons_zero, List.set_cons_succ]; rfl)), ?_⟩
                  refine lb_val (by kernel_rfl) ⟨_, (by (intro w' hC; clear hC; (try go_simp); (try with_reducible rfl); done)), _, (by (simp only [Act.put, List.setIfInBounds_toArray, List.set_cons_zero, List.set_cons_succ]; rfl)), ?_⟩
                  refine lb_val (by kernel_rfl) ⟨_, (by (intro w' hC; clear hC; (try go_simp); (try with_reducible rfl); done)), _, (by (simp only [Act.put, List.setIfInBounds_toArray, List.set_cons_zero, List.set_cons_succ]; rfl)), ?_⟩
                  refine lb_val (by kernel_rfl) ⟨_, (by (intro w' hC; (have ⟨_, _, c2, _⟩ := HX.out w' hC); clear hC; (try go_simp); (try with_reducible rfl); done)), _, (by (simp only [Act.put, List.setIfInBounds_toArray, List.set_cons_zero, List.set_cons_succ]; rfl)), ?_⟩
                  refine lb_val (by kernel_rfl) ⟨_, (by (intro w' hC; clear hC; (try go_simp); (try with_reducible rfl); done)), _, (by (simp only [Act.put, List.setIfInBounds_toArray, List.set_cons_zero, List.set_cons_succ]; rfl)), ?_⟩
                  refine lb_move _ (by kernel_rfl) rfl ⟨_, (by ((try simp [go_sem]); (try rfl); done)), _, (by (simp only [Act.put, List.setIfInBounds_toArray, List.set_cons_zero, List.set_cons_succ]; rfl)), ?_⟩
                  first | (refine lb_skip (by rfl) ⟨_, (by (simp only [Act.put, List.setIfInBounds_toArray, List.set_cons_zero, List.set_cons_succ]; rfl)), ?_⟩) | (refine lb_move _ (by kernel_rfl) rfl ⟨_, (by ((try simp [go_sem]); (try rfl); done)), _, (by (simp only [Act.put, List.setIfInBounds_toArray, List.set_cons_zero, List.set_cons_succ]; rfl)), ?_⟩)
                  first | (refine lb_skip (by rfl) ⟨_, (by (simp only [Act.put, List.setIfInBounds_toArray, List.set_cons_zero, List.set_cons_succ]; rfl)), ?_⟩) | (refine lb_val (by kernel_rfl) ⟨_, (by (intro w' hC; clear hC; (try go_simp); (try with_reducible rfl); done)), _, (by (simp only [Act.put, List.setIfInBounds_toArray, List.set_cons_zero, List.set_cons_succ]; rfl)), ?_⟩)
                  first | (refine lb_skip (by rfl) ⟨_, (by (simp only [Act.put, List.setIfInBounds_toArray, List.set_cons_zero, List.set_cons_succ]; rfl)), ?_⟩) | (refine lb_move _ (by kernel_rfl) rfl ⟨_, (by ((try simp [go_sem]); (try rfl); done)), _, (by (simp only [Act.put, List.setIfInBounds_toArray, List.set_cons_zero, List.set_cons_succ]; rfl)), ?_⟩)
                  first | (refine lb_skip (by rfl) ⟨_, (by (simp only [Act.put, List.setIfInBounds_toArray, List.set_cons_zero, List.set_cons_succ]; rfl)), ?_⟩) | (refine lb_move _ (by kernel_rfl) rfl ⟨_, (by ((try simp [go_sem]); (try rfl); done)), _, (by (simp only [Act.put, List.setIfInBounds_toArray, List.set_cons_zero, List.set_cons_succ]; rfl)), ?_⟩)
                  first | (refine lb_skip (by rfl) ⟨_, (by (simp only [Act.put, List.setIfInBounds_toArray, List.set_cons_zero, List.set_cons_succ]; rfl)), ?_⟩) | (refine lb_move _ (by kernel_rfl) rfl ⟨_, (by ((try simp [go_sem]); (try rfl); done)), _, (by (simp only [Act.put, List.setIfInBounds_toArray, List.set_cons_zero, List.set_cons_succ]; rfl)), ?_⟩)
                  first | (refine lb_skip (by rfl) ⟨_, (by (simp only [Act.put, List.setIfInBounds_toArray, List.set_cons_zero, List.set_cons_succ]; rfl)), ?_⟩) | (refine lb_val (by kernel_rfl) ⟨_, (by (intro w' hC; clear hC; (try go_simp); (try with_reducible rfl); done)), _, (by (simp only [Act.put, List.setIfInBounds_toArray, List.set_cons_zero, List.set_cons_succ]; rfl)), ?_⟩)
                  first | (refine lb_skip (by rfl) ⟨_, (by (simp only [Act.put, List.setIfInBounds_toArray, List.set_cons_zero, List.set_cons_succ]; rfl)), ?_⟩) | (refine lb_val (by kernel_rfl) ⟨_, (by (intro w' hC; clear hC; (try go_simp); (try with_reducible rfl); done)), _, (by (simp only [Act.put, List.setIfInBounds_toArray, List.set_cons_zero, List.set_cons_succ]; rfl)), ?_⟩)
                  first | (refine lb_skip (by rfl) ⟨_, (by (simp only [Act.put, List.setIfInBounds_toArray, List.set_cons_zero, List.set_cons_succ]; rfl)), ?_⟩) | (refine lb_val (by kernel_rfl) ⟨_, (by (intro w' hC; (have ⟨_, c1, _, _⟩ := HX.out w' hC); clear hC; (try go_simp); (try with_reducible rfl); done)), _, (by (simp only [Act.put, List.setIfInBounds_toArray, List.set_cons_zero, List.set_cons_succ]; rfl)), ?_⟩)
                  first | (refine lb_skip (by rfl) ⟨_, (by (simp only [Act.put, List.setIfInBounds_toArray, List.set_cons_zero, List.set_cons_succ]; rfl)), ?_⟩) | (refine lb_move _ (by kernel_rfl) rfl ⟨_, (by ((try simp [go_sem]); (try rfl); done)), _, (by (simp only [Act.put, List.setIfInBounds_toArray, List.set_cons_zero, List.set_cons_succ]; rfl)), ?_⟩)
                  first | (refine lb_skip (by rfl) ⟨_, (by (simp only [Act.put, List.setIfInBounds_toArray, List.set_cons_zero, List.set_cons_succ]; rfl)), ?_⟩) | (refine lb_move _ (by kernel_rfl) rfl ⟨_, (by ((try simp [go_sem]); (try rfl); done)), _, (by (simp only [Act.put, List.setIfInBounds_toArray, List.set_cons_zero, List.set_cons_succ]; rfl)), ?_⟩)
                  first | (refine lb_skip (by rfl) ⟨_, (by (simp only [Act.put, List.setIfInBounds_toArray, List.set_cons_zero, List.set_cons_succ]; rfl)), ?_⟩) | (refine lb_val (by kernel_rfl) ⟨_, (by (intro w' hC; clear hC; (try go_simp); (try with_reducible rfl); done)), _, (by (simp only [Act.put, List.setIfInBounds_toArray, List.set_cons_zero, List.set_cons_succ]; rfl)), ?_⟩)
                  first | (refine lb_skip (by rfl) ⟨_, (by (simp only [Act.put, List.setIfInBounds_toArray, List.set_cons_zero, List.set_cons_succ]; rfl)), ?_⟩) | (refine lb_val (by kernel_rfl) ⟨_, (by (intro w' hC; clear hC; (try go_simp); (try with_reducible rfl); done)), _, (by (simp only [Act.put, List.setIfInBounds_toArray, List.set_cons_zero, List.set_cons_succ]; rfl)), ?_⟩)
                  first | (refine lb_skip (by rfl) ⟨_, (by (simp only [Act.put, List.setIfInBounds_toArray, List.set_cons_zero, List.set_cons_succ]; rfl)), ?_⟩) | (refine lb_val (by kernel_rfl) ⟨_, (by (intro w' hC; (have ⟨_, d1, _, _⟩ := HJ.out w' hC); clear hC; (try go_simp); (try with_reducible rfl); done)), _, (by (simp only [Act.put, List.setIfInBounds_toArray, List.set_cons_zero, List.set_cons_succ]; rfl)), ?_⟩)
                  first | (refine lb_skip (by rfl) ⟨_, (by (simp only [Act.put, List.setIfInBounds_toArray, List.set_cons_zero, List.set_cons_succ]; rfl)), ?_⟩) | (refine lb_val (by kernel_rfl) ⟨_, (by (intro w' hC; clear hC; (try go_simp); (try with_reducible rfl); done)), _, (by (simp only [Act.put, List.setIfInBounds_toArray, List.set_cons_zero, List.set_cons_succ]; rfl)), ?_⟩)
                  first | (refine lb_skip (by rfl) ⟨_, (by (simp only [Act.put, List.setIfInBounds_toArray, List.set_cons_zero, List.set_cons_succ]; rfl)), ?_⟩) | (refine lb_val (by kernel_rfl) ⟨_, (by (intro w' hC; clear hC; (try go_simp); (try with_reducible rfl); done)), _, (by (simp only [Act.put, List.setIfInBounds_toArray, List.set_cons_zero, List.set_cons_succ]; rfl)), ?_⟩)
                  refine lb_val (by kernel_rfl) ⟨_, (by (intro w' hC; clear hC; (try go_simp); (try with_reducible rfl); done)), _, (by (simp only [Act.put, List.setIfInBounds_toArray, List.set_cons_zero, List.set_cons_succ]; rfl)), ?_⟩
                  refine .nil ?_
                  intro w6 hb6
                  have hb' := hb.trans (hb6.mono hb.size)
                  have HBS : Hid (BestE M1 (i + 1) (i : Int)) := Lib.hid (HBST.out.take hlt (by rw [← HYI.out]; exact HK.out) (.inr ⟨j, hj, rfl, by rw [← HYI.out, ← HZI.out]; exact hyz⟩))
                  clear hb6 HX
                  go_wp2_with fail
                  go_roundw
                  case rel => exact ⟨i + 1, (i : Int), hlt, by go_num, rfl, HBS.out, hb'⟩
                  case measure => simp [intOf]; omega
                · have hyd : decide (y.v < z.v) = false := decide_eq_false hyz
                  refine wp_region_b 24 (by kernel_rfl) (by kernel_rfl) ?_
                  simp only [List.take_succ_cons, List.take_zero, List.drop_succ_cons, List.drop_zero]
                  refine lb_move _ (by kernel_rfl) rfl ⟨_, (by ((try simp [go_sem]); (try rfl); done)), _, (by (simp only [Act.put, List.setIfInBounds_toArray, List.set_cons_zero, List.set_cons_succ]; rfl)), ?_⟩
                  refine lb_move _ (by kernel_rfl) rfl ⟨_, (by ((try simp [go_sem]); (try rfl); done)), _, (by (simp only [Act.put, List.setIfInBounds_toArray, List.set_cons_zero, List.set_cons_succ]; rfl)), ?_⟩
                  refine lb_val (by kernel_rfl) ⟨_, (by (intro w' hC; clear hC; (try go_simp); (try with_reducible rfl); done)), _, (by (simp only [Act.put, List.setIfInBounds_toArray, List.set_cons_zero, List.set_cons_succ]; rfl)), ?_⟩
                  refine lb_val (by kernel_rfl) ⟨_, (by (intro w' hC; clear hC; (try go_simp); (try with_reducible rfl); done)), _, (by (simp only [Act.put, List.setIfInBounds_toArray, List.set_cons_zero, List.set_cons_succ]; rfl)), ?_⟩
                  refine lb_val (by kernel_rfl) ⟨_, (by (intro w' hC; clear hC; (try go_simp); (try with_reducible rfl); done)), _, (by (simp only [Act.put, List.setIfInBounds_toArray, List.set_cons_zero, List.set_cons_succ]; rfl)), ?_⟩
                  refine lb_val (by kernel_rfl) ⟨_, (by (intro w' hC; (have ⟨_, _, c2, _⟩ := HX.out w' hC); clear hC; (try go_simp); (try with_reducible rfl); done)), _, (by (simp only [Act.put, List.setIfInBounds_toArray, List.set_cons_zero, List.set_cons_succ]; rfl)), ?_⟩
                  refine lb_val (by kernel_rfl) ⟨_, (by (intro w' hC; clear hC; (try go_simp); (try with_reducible rfl); done)), _, (by (simp only [Act.put, List.setIfInBounds_toArray, List.set_cons_zero, List.set_cons_succ]; rfl)), ?_⟩
                  refine lb_move _ (by kernel_rfl) rfl ⟨_, (by ((try simp [go_sem]); (try rfl); done)), _, (by (simp only [Act.put, List.setIfInBounds_toArray, List.set_cons_zero, List.set_cons_succ]; rfl)), ?_⟩
                  first | (refine lb_skip (by rfl) ⟨_, (by (simp only [Act.put, List.setIfInBounds_toArray, List.set_cons_zero, List.set_cons_succ]; rfl)), ?_⟩) | (refine lb_move _ (by kernel_rfl) rfl ⟨_, (by ((try simp [go_sem]); (try rfl); done)), _, (by (simp only [Act.put, List.setIfInBounds_toArray, List.set_cons_zero, List.set_cons_succ]; rfl)), ?_⟩)
                  first | (refine lb_skip (by rfl) ⟨_, (by (simp only [Act.put, List.setIfInBounds_toArray, List.set_cons_zero, List.set_cons_succ]; rfl)), ?_⟩) | (refine lb_val (by kernel_rfl) ⟨_, (by (intro w' hC; clear hC; (try go_simp); (try with_reducible rfl); done)), _, (by (simp only [Act.put, List.setIfInBounds_toArray, List.set_cons_zero, List.set_cons_succ]; rfl)), ?_⟩)
                  first | (refine lb_skip (by rfl) ⟨_, (by (simp only [Act.put, List.setIfInBounds_toArray, List.set_cons_zero, List.set_cons_succ]; rfl)), ?_⟩) | (refine lb_move _ (by kernel_rfl) rfl ⟨_, (by ((try simp [go_sem]); (try rfl); done)), _, (by (simp only [Act.put, List.setIfInBounds_toArray, List.set_cons_zero, List.set_cons_succ]; rfl)), ?_⟩)
                  first | (refine lb_skip (by rfl) ⟨_, (by (simp only [Act.put, List.setIfInBounds_toArray, List.set_cons_zero, List.set_cons_succ]; rfl)), ?_⟩) | (refine lb_move _ (by kernel_rfl) rfl ⟨_, (by ((try simp [go_sem]); (try rfl); done)), _, (by (simp only [Act.put, List.setIfInBounds_toArray, List.set_cons_zero, List.set_cons_succ]; rfl)), ?_⟩)
                  first | (refine lb_skip (by rfl) ⟨_, (by (simp only [Act.put, List.setIfInBounds_toArray, List.set_cons_zero, List.set_cons_succ]; rfl)), ?_⟩) | (refine lb_move _ (by kernel_rfl) rfl ⟨_, (by ((try simp [go_sem]); (try rfl); done)), _, (by (simp only [Act.put, List.setIfInBounds_toArray, List.set_cons_zero, List.set_cons_succ]; rfl)), ?_⟩)
                  first | (refine lb_skip (by rfl) ⟨_, (by (simp only [Act.put, List.setIfInBounds_toArray, List.set_cons_zero, List.set_cons_succ]; rfl)), ?_⟩) | (refine lb_val (by kernel_rfl) ⟨_, (by (intro w' hC; clear hC; (try go_simp); (try with_reducible rfl); done)), _, (by (simp only [Act.put, List.setIfInBounds_toArray, List.set_cons_zero, List.set_cons_succ]; rfl)), ?_⟩)
                  first | (refine lb_skip (by rfl) ⟨_, (by (simp only [Act.put, List.setIfInBounds_toArray, List.set_cons_zero, List.set_cons_succ]; rfl)), ?_⟩) | (refine lb_val (by kernel_rfl) ⟨_, (by (intro w' hC; clear hC; (try go_simp); (try with_reducible rfl); done)), _, (by (simp only [Act.put, List.setIfInBounds_toArray, List.set_cons_zero, List.set_cons_succ]; rfl)), ?_⟩)
                  first | (refine lb_skip (by rfl) ⟨_, (by (simp only [Act.put, List.setIfInBounds_toArray, List.set_cons_zero, List.set_cons_succ]; rfl)), ?_⟩) | (refine lb_val (by kernel_rfl) ⟨_, (by (intro w' hC; (have ⟨_, c1, _, _⟩ := HX.out w' hC); clear hC; (try go_simp); (try with_reducible rfl); done)), _, (by (simp only [Act.put, List.setIfInBounds_toArray, List.set_cons_zero, List.set_cons_succ]; rfl)), ?_⟩)
                  first | (refine lb_skip (by rfl) ⟨_, (by (simp only [Act.put, List.setIfInBounds_toArray, List.set_cons_zero, List.set_cons_succ]; rfl)), ?_⟩) | (refine lb_move _ (by kernel_rfl) rfl ⟨_, (by ((try simp [go_sem]); (try rfl); done)), _, (by (simp only [Act.put, List.setIfInBounds_toArray, List.set_cons_zero, List.set_cons_succ]; rfl)), ?_⟩)
                  first | (refine lb_skip (by rfl) ⟨_, (by (simp only [Act.put, List.setIfInBounds_toArray, List.set_cons_zero, List.set_cons_succ]; rfl)), ?_⟩) | (refine lb_move _ (by kernel_rfl) rfl ⟨_, (by ((try simp [go_sem]); (try rfl); done)), _, (by (simp only [Act.put, List.setIfInBounds_toArray, List.set_cons_zero, List.set_cons_succ]; rfl)), ?_⟩)
                  first | (refine lb_skip (by rfl) ⟨_, (by (simp only [Act.put, List.setIfInBounds_toArray, List.set_cons_zero, List.set_cons_succ]; rfl)), ?_⟩) | (refine lb_val (by kernel_rfl) ⟨_, (by (intro w' hC; clear hC; (try go_simp); (try with_reducible rfl); done)), _, (by (simp only [Act.put, List.setIfInBounds_toArray, List.set_cons_zero, List.set_cons_succ]; rfl)), ?_⟩)
                  first | (refine lb_skip (by rfl) ⟨_, (by (simp only [Act.put, List.setIfInBounds_toArray, List.set_cons_zero, List.set_cons_succ]; rfl)), ?_⟩) | (refine lb_val (by kernel_rfl) ⟨_, (by (intro w' hC; clear hC; (try go_simp); (try with_reducible rfl); done)), _, (by (simp only [Act.put, List.setIfInBounds_toArray, List.set_cons_zero, List.set_cons_succ]; rfl)), ?_⟩)
                  first | (refine lb_skip (by rfl) ⟨_, (by (simp only [Act.put, List.setIfInBounds_toArray, List.set_cons_zero, List.set_cons_succ]; rfl)), ?_⟩) | (refine lb_val (by kernel_rfl) ⟨_, (by (intro w' hC; (have ⟨_, d1, _, _⟩ := HJ.out w' hC); clear hC; (try go_simp); (try with_reducible rfl); done)), _, (by (simp only [Act.put, List.setIfInBounds_toArray, List.set_cons_zero, List.set_cons_succ]; rfl)), ?_⟩)
                  first | (refine lb_skip (by rfl) ⟨_, (by (simp only [Act.put, List.setIfInBounds_toArray, List.set_cons_zero, List.set_cons_succ]; rfl)), ?_⟩) | (refine lb_val (by kernel_rfl) ⟨_, (by (intro w' hC; clear hC; (try go_simp); (try with_reducible rfl); done)), _, (by (simp only [Act.put, List.setIfInBounds_toArray, List.set_cons_zero, List.set_cons_succ]; rfl)), ?_⟩)
                  first | (refine lb_skip (by rfl) ⟨_, (by (simp only [Act.put, List.setIfInBounds_toArray, List.set_cons_zero, List.set_cons_succ]; rfl)), ?_⟩) | (refine lb_val (by kernel_rfl) ⟨_, (by (intro w' hC; clear hC; (try go_simp); (try with_reducible rfl); done)), _, (by (simp only [Act.put, List.setIfInBounds_toArray, List.set_cons_zero, List.set_cons_succ]; rfl)), ?_⟩)
                  refine lb_val (by kernel_rfl) ⟨_, (by (intro w' hC; clear hC; (try go_simp); (try with_reducible rfl); done)), _, (by (simp only [Act.put, List.setIfInBounds_toArray, List.set_cons_zero, List.set_cons_succ]; rfl)), ?_⟩
                  refine .nil ?_
                  intro w6 hb6
                  have hb' := hb.trans (hb6.mono hb.size)
                  have HBS : Hid (BestE M1 (i + 1) (j : Int)) := Lib.hid (HBST.out.keep hlt (.inr ⟨j, hj, rfl, by rw [← HYI.out, ← HZI.out]; exact hyz⟩))
                  clear hb6 HX
                  go_wp2_with fail
                  go_roundw
                  case rel => exact ⟨i + 1, (j : Int), hlt, by go_num, rfl, HBS.out, hb'⟩
                  case measure => simp [intOf]; omega
            · have hkb : (y.k == 0) = false := by simpa using hk
              have HJ : Hid True := trivial
              refine wp_region_b 24 (by kernel_rfl) (by kernel_rfl) ?_
              simp only [List.take_succ_cons, List.take_zero, List.drop_succ_cons, List.drop_zero]
              refine lb_move _ (by kernel_rfl) rfl ⟨_, (by ((try simp [go_sem]); (try rfl); done)), _, (by (simp only [Act.put, List.setIfInBounds_toArray, List.set_cons_zero, List.set_cons_succ]; rfl)), ?_⟩
              refine lb_move _ (by kernel_rfl) rfl ⟨_, (by ((try simp [go_sem]); (try rfl); done)), _, (by (simp only [Act.put, List.setIfInBounds_toArray, List.set_cons_zero, List.set_cons_succ]; rfl)), ?_⟩
              refine lb_val (by kernel_rfl) ⟨_, (by (intro w' hC; clear hC; (try go_simp); (try with_reducible rfl); done)), _, (by (simp only [Act.put, List.setIfInBounds_toArray, List.set_cons_zero, List.set_cons_succ]; rfl)), ?_⟩
              refine lb_val (by kernel_rfl) ⟨_, (by (intro w' hC; clear hC; (try go_simp); (try with_reducible rfl); done)), _, (by (simp only [Act.put, List.setIfInBounds_toArray, List.set_cons_zero, List.set_cons_succ]; rfl)), ?_⟩
              refine lb_val (by kernel_rfl) ⟨_, (by (intro w' hC; clear hC; (try go_simp); (try with_reducible rfl); done)), _, (by (simp only [Act.put, List.setIfInBounds_toArray, List.set_cons_zero, List.set_cons_succ]; rfl)), ?_⟩
              refine lb_val (by kernel_rfl) ⟨_, (by (intro w' hC; (have ⟨_, _, c2, _⟩ := HX.out w' hC); clear hC; (try go_simp); (try with_reducible rfl); done)), _, (by (simp only [Act.put, List.setIfInBounds_toArray, List.set_cons_zero, List.set_cons_succ]; rfl)), ?_⟩
              refine lb_val (by kernel_rfl) ⟨_, (by (intro w' hC; clear hC; (try go_simp); (try with_reducible rfl); done)), _, (by (simp only [Act.put, List.setIfInBounds_toArray, List.set_cons_zero, List.set_cons_succ]; rfl)), ?_⟩
              refine lb_move _ (by kernel_rfl) rfl ⟨_, (by ((try simp [go_sem]); (try rfl); done)), _, (by (simp only [Act.put, List.setIfInBounds_toArray, List.set_cons_zero, List.set_cons_succ]; rfl)), ?_⟩
              first | (refine lb_skip (by rfl) ⟨_, (by (simp only [Act.put, List.setIfInBounds_toArray, List.set_cons_zero, List.set_cons_succ]; rfl)), ?_⟩) | (refine lb_move _ (by kernel_rfl) rfl ⟨_, (by ((try simp [go_sem]); (try rfl); done)), _, (by (simp only [Act.put, List.setIfInBounds_toArray, List.set_cons_zero, List.set_cons_succ]; rfl)), ?_⟩)
              first | (refine lb_skip (by rfl) ⟨_, (by (simp only [Act.put, List.setIfInBounds_toArray, List.set_cons_zero, List.set_cons_succ]; rfl)), ?_⟩) | (refine lb_val (by kernel_rfl) ⟨_, (by (intro w' hC; clear hC; (try go_simp); (try with_reducible rfl); done)), _, (by (simp only [Act.put, List.setIfInBounds_toArray, List.set_cons_zero, List.set_cons_succ]; rfl)), ?_⟩)
              first | (refine lb_skip (by rfl) ⟨_, (by (simp only [Act.put, List.setIfInBounds_toArray, List.set_cons_zero, List.set_cons_succ]; rfl)), ?_⟩) | (refine lb_move _ (by kernel_rfl) rfl ⟨_, (by ((try simp [go_sem]); (try rfl); done)), _, (by (simp only [Act.put, List.setIfInBounds_toArray, List.set_cons_zero, List.set_cons_succ]; rfl)), ?_⟩)
              first | (refine lb_skip (by rfl) ⟨_, (by (simp only [Act.put, List.setIfInBounds_toArray, List.set_cons_zero, List.set_cons_succ]; rfl)), ?_⟩) | (refine lb_move _ (by kernel_rfl) rfl ⟨_, (by ((try simp [go_sem]); (try rfl); done)), _, (by (simp only [Act.put, List.setIfInBounds_toArray, List.set_cons_zero, List.set_cons_succ]; rfl)), ?_⟩)
              first | (refine lb_skip (by rfl) ⟨_, (by (simp only [Act.put, List.setIfInBounds_toArray, List.set_cons_zero, List.set_cons_succ]; rfl)), ?_⟩) | (refine lb_move _ (by kernel_rfl) rfl ⟨_, (by ((try simp [go_sem]); (try rfl); done)), _, (by (simp only [Act.put, List.setIfInBounds_toArray, List.set_cons_zero, List.set_cons_succ]; rfl)), ?_⟩)
              first | (refine lb_skip (by rfl) ⟨_, (by (simp only [Act.put, List.setIfInBounds_toArray, List.set_cons_zero, List.set_cons_succ]; rfl)), ?_⟩) | (refine lb_val (by kernel_rfl) ⟨_, (by (intro w' hC; clear hC; (try go_simp); (try with_reducible rfl); done)), _, (by (simp only [Act.put, List.setIfInBounds_toArray, List.set_cons_zero, List.set_cons_succ]; rfl)), ?_⟩)
              first | (refine lb_skip (by rfl) ⟨_, (by (simp only [Act.put, List.setIfInBounds_toArray, List.set_cons_zero, List.set_cons_succ]; rfl)), ?_⟩) | (refine lb_val (by kernel_rfl) ⟨_, (by (intro w' hC; clear hC; (try go_simp); (try with_reducible rfl); done)), _, (by (simp only [Act.put, List.setIfInBounds_toArray, List.set_cons_zero, List.set_cons_succ]; rfl)), ?_⟩)
              first | (refine lb_skip (by rfl) ⟨_, (by (simp only [Act.put, List.setIfInBounds_toArray, List.set_cons_zero, List.set_cons_succ]; rfl)), ?_⟩) | (refine lb_val (by kernel_rfl) ⟨_, (by (intro w' hC; (have ⟨_, c1, _, _⟩ := HX.out w' hC); clear hC; (try go_simp); (try with_reducible rfl); done)), _, (by (simp only [Act.put, List.setIfInBounds_toArray, List.set_cons_zero, List.set_cons_succ]; rfl)), ?_⟩)
              first | (refine lb_skip (by rfl) ⟨_, (by (simp only [Act.put, List.setIfInBounds_toArray, List.set_cons_zero, List.set_cons_succ]; rfl)), ?_⟩) | (refine lb_move _ (by kernel_rfl) rfl ⟨_, (by ((try simp [go_sem]); (try rfl); done)), _, (by (simp only [Act.put, List.setIfInBounds_toArray, List.set_cons_zero, List.set_cons_succ]; rfl)), ?_⟩)
              first | (refine lb_skip (by rfl) ⟨_, (by (simp only [Act.put, List.setIfInBounds_toArray, List.set_cons_zero, List.set_cons_succ]; rfl)), ?_⟩) | (refine lb_move _ (by kernel_rfl) rfl ⟨_, (by ((try simp [go_sem]); (try rfl); done)), _, (by (simp only [Act.put, List.setIfInBounds_toArray, List.set_cons_zero, List.set_cons_succ]; rfl)), ?_⟩)
              first | (refine lb_skip (by rfl) ⟨_, (by (simp only [Act.put, List.setIfInBounds_toArray, List.set_cons_zero, List.set_cons_succ]; rfl)), ?_⟩) | (refine lb_val (by kernel_rfl) ⟨_, (by (intro w' hC; clear hC; (try go_simp); (try with_reducible rfl); done)), _, (by (simp only [Act.put, List.setIfInBounds_toArray, List.set_cons_zero, List.set_cons_succ]; rfl)), ?_⟩)
              first | (refine lb_skip (by rfl) ⟨_, (by (simp only [Act.put, List.setIfInBounds_toArray, List.set_cons_zero, List.set_cons_succ]; rfl)), ?_⟩) | (refine lb_val (by kernel_rfl) ⟨_, (by (intro w' hC; clear hC; (try go_simp); (try with_reducible rfl); done)), _, (by (simp only [Act.put, List.setIfInBounds_toArray, List.set_cons_zero, List.set_cons_succ]; rfl)), ?_⟩)
              first | (refine lb_skip (by rfl) ⟨_, (by (simp only [Act.put, List.setIfInBounds_toArray, List.set_cons_zero, List.set_cons_succ]; rfl)), ?_⟩) | (refine lb_val (by kernel_rfl) ⟨_, (by (intro w' hC; (have ⟨_, d1, _, _⟩ := HJ.out w' hC); clear hC; (try go_simp); (try with_reducible rfl); done)), _, (by (simp only [Act.put, List.setIfInBounds_toArray, List.set_cons_zero, List.set_cons_succ]; rfl)), ?_⟩)
              first | (refine lb_skip (by rfl) ⟨_, (by (simp only [Act.put, List.setIfInBounds_toArray, List.set_cons_zero, List.set_cons_succ]; rfl)), ?_⟩) | (refine lb_val (by kernel_rfl) ⟨_, (by (intro w' hC; clear hC; (try go_simp); (try with_reducible rfl); done)), _, (by (simp only [Act.put, List.setIfInBounds_toArray, List.set_cons_zero, List.set_cons_succ]; rfl)), ?_⟩)
              first | (refine lb_skip (by rfl) ⟨_, (by (simp only [Act.put, List.setIfInBounds_toArray, List.set_cons_zero, List.set_cons_succ]; rfl)), ?_⟩) | (refine lb_val (by kernel_rfl) ⟨_, (by (intro w' hC; clear hC; (try go_simp); (try with_reducible rfl); done)), _, (by (simp only [Act.put, List.setIfInBounds_toArray, List.set_cons_zero, List.set_cons_succ]; rfl)), ?_⟩)
              refine lb_val (by kernel_rfl) ⟨_, (by (intro w' hC; clear hC; (try go_simp); (try with_reducible rfl); done)), _, (by (simp only [Act.put, List.setIfInBounds_toArray, List.set_cons_zero, List.set_cons_succ]; rfl)), ?_⟩
              refine .nil ?_
              intro w6 hb6
              have hb' := hb.trans (hb6.mono hb.size)
              have HBS : Hid (BestE M1 (i + 1) b) := Lib.hid (HBST.out.keep hlt (.inl (by rw [← HYI.out]; exact hk)))
              clear hb6 HX
              go_wp2_with fail
              go_roundw
              case rel => exact ⟨i + 1, b, hlt, by go_num, rfl, HBS.out, hb'⟩
              case measure => simp [intOf]; omega
          · have e : i = M1.length := by omega
            subst e
            unfold BestE at hbst
            rw [List.take_length] at hbst
            replace y0 := y0.below hb
            replace y1 := y1.below hb
            replace y2 := y2.below hb
            replace hW := hW.trans (hb.mono hW.size)
            replace HE1 := Lib.hid (HE1.out.below hb)
            rcases hbst with ⟨rfl, hbn⟩ | ⟨j, hj, rfl, hji, hbj⟩
            · obtain ⟨hT, rfl⟩ : T = M.map EV.pl ∧ E = 24 := by
                have := HR3.out
                rw [hbn] at this
                simpa using this
              have HT : Hid (M.map EV.pl = T) := Lib.hid hT.symm
              clear HR3 hT hbn hb
              have p0 := y0.cell 0
              have p1 := y0.cell 1
              simp only [List.getElem?_toArray, List.getElem?_cons_zero, List.getElem?_cons_succ] at p0 p1
              have r0 := y2.cell 0
              have r1 := y2.cell 1
              simp only [List.getElem?_toArray, List.getElem?_cons_zero, List.getElem?_cons_succ] at r0 r1
              have fr := fun o => y2.frozen o
              have K1 := Lib.hid (HE.out.below hW)
              have HY := Lib.hid y2
              go_wp2_with fail
              have kR : Fr (fun x => x = w.heap.size + 2) wr ((wr.setCell ⟨w.heap.size + 2, 0, none⟩ (.int .u64 s)).setCell ⟨w.heap.size + 2, 1, none⟩ (.slice A M.length c)) := ((Fr.refl (fun x => x = w.heap.size + 2) wr).setAt (w.heap.size + 2) _ rfl _).setAt (w.heap.size + 2) _ rfl _
              have yR := (y2.set_ 0 (.int .u64 s)).set_ 1 (.slice A M.length c)
              simp only [List.setIfInBounds_toArray, List.set_cons_zero, List.set_cons_succ] at yR
              have hwR : Below w.heap.size w ((wr.setCell ⟨w.heap.size + 2, 0, none⟩ (.int .u64 s)).setCell ⟨w.heap.size + 2, 1, none⟩ (.slice A M.length c)) := hW.trans (kR.below (B := w.heap.size) hW.size (fun k hk e => by omega))
              generalize ((wr.setCell ⟨w.heap.size + 2, 0, none⟩ (.int .u64 s)).setCell ⟨w.heap.size + 2, 1, none⟩ (.slice A M.length c)) = wR at *
              have s0 := yR.cell 0
              have s1 := yR.cell 1
              simp only [List.getElem?_toArray, List.getElem?_cons_zero, List.getElem?_cons_succ] at s0 s1
              refine bodyPost_ret (v := .tuple #[.agg #[.int .u64 s, .slice A M.length c], .int .i64 24]) (by simp [results, Tryz.results7, go_sem, s0, s1]) rfl ?_
              exact ⟨⟨A, c, M, rfl, HT.out, K1.out.notBook HY.out (by simp) (by simp) kR⟩, hwR⟩
            · obtain ⟨hT, rfl⟩ : T = putR (withoutR (M1.map EV.pl) (tl M1[j].p)) (tl x.p) x.ep ∧ E = 0 := by
                have := HR3.out
                rw [hbj] at this
                simp only [Option.elim, Prod.mk.injEq] at this
                exact this
              obtain ⟨bk, off, hA, hbb, c0, c1', c2, c3⟩ := HE1.out.at_ hj
              have hb1 : decide ((j : Int) < 0) = false := decide_eq_false (by omega)
              have HWO := Lib.hid (refWithout22_any A1 c1 M1 M1[j].p wr HE1.out)
              have HT0 := Lib.hid hT
              obtain ⟨q, hq⟩ : ∃ q, q = M1[j].p := ⟨_, rfl⟩
              rw [← hq] at c0 HWO HT0
              subst hA
              clear c1' c2 c3 hT hbj HR3 hq hb
              go_wp2_with fail
              refine HWO.out.mono ?_
              rintro e w7 ⟨⟨A2, c2, M2, rfl, hM2, ho2⟩, hb7⟩
              replace y0 := y0.below hb7
              replace y1 := y1.below hb7
              replace y2 := y2.below hb7
              replace hW := hW.trans (hb7.mono hW.size)
              have hM2l : M2.length ≤ M1.length := by rw [hM2.out]; exact without_lenE _ _
              have HE2 : Hid (EsR w7 A2 M2) := Lib.hid (ho2.esr (fun y hy => by rw [hM2.out] at hy; exact (HE1.out.below hb7).ok y (without_mem hy)) (by omega))
              have HP2 : Hid (∀ y ∈ M2, y.p.size ≤ 1048576) := Lib.hid (fun y hy => by rw [hM2.out] at hy; exact HP1.out y (without_mem hy))
              have HT2 : Hid (insR (tl x.p) x.ep (M2.map EV.pl) = T) := Lib.hid (by
                rw [HT0.out, hM2.out, pl_without]
                unfold putR
                rw [without_self (L := withoutR (M1.map EV.pl) (tl q))]
                rw [getR_without, HPM.out, HGN.out]
                simp)
              clear HWO ho2 hb7 hM2 c0 hb1
              go_upto_region 18 with (fail)
              refine wp_region_m [true, true, true, true, false, true] (fun W => Below w7.heap.size w7 W) (by kernel_rfl) (by kernel_rfl) ?_
              simp only [List.length_cons, List.length_nil, Nat.zero_add, Nat.reduceAdd, List.take_succ_cons, List.take_zero, List.drop_succ_cons, List.drop_zero]
              refine mx_val (by kernel_rfl) ⟨_, (by (intro w' hC; clear hC; (try go_simp); (try with_reducible rfl); done)), _, (by (simp only [Act.put, List.setIfInBounds_toArray, List.set_cons_zero, List.set_cons_succ]; rfl)), ?_⟩
              refine mx_val (by kernel_rfl) ⟨_, (by (intro w' hC; (have q := (y0.below hC).cell 0; simp only [List.getElem?_toArray, List.getElem?_cons_zero] at q); clear hC; (try go_simp); (try with_reducible rfl); done)), _, (by (simp only [Act.put, List.setIfInBounds_toArray, List.set_cons_zero, List.set_cons_succ]; rfl)), ?_⟩
              refine mx_move _ (by kernel_rfl) rfl ⟨_, (by ((try simp [go_sem]); (try rfl); done)), _, (by (simp only [Act.put, List.setIfInBounds_toArray, List.set_cons_zero, List.set_cons_succ]; rfl)), ?_⟩
              refine mx_val (by kernel_rfl) ⟨_, (by (intro w' hC; (have q0 := (y1.below hC).cell 0; have q1 := (y1.below hC).cell 1; have q2 := (y1.below hC).cell 2; have q3 := (y1.below hC).cell 3; simp only [List.getElem?_toArray, List.getElem?_cons_zero, List.getElem?_cons_succ] at q0 q1 q2 q3); clear hC; (try go_simp); (try with_reducible rfl); done)), _, (by (simp only [Act.put, List.setIfInBounds_toArray, List.set_cons_zero, List.set_cons_succ]; rfl)), ?_⟩
              refine mx_call ((Below.refl _ _).drew) (by kernel_rfl) ?_ (refWith22_any A2 c2 M2 x w7.drew (HE2.out.below (Below.refl _ _).drew) hp (fun y hy => HP2.out y hy)) ?_
              · (go_simp; done)
              rintro e wz ⟨⟨Az, cz, Mz, rfl, hMz, hoz⟩, hbz⟩
              have hlow : Below w7.heap.size w7 wz := (Below.refl _ _).drew.trans (hbz.mono (Nat.le_refl _))
              refine ⟨_, rfl, _, (by (simp only [Act.put, List.setIfInBounds_toArray, List.set_cons_zero, List.set_cons_succ]; rfl)), ?_⟩
              refine mx_val (by kernel_rfl) ⟨_, (by (intro w' hC; clear hC; (try go_simp); (try with_reducible rfl); done)), _, (by (simp only [Act.put, List.setIfInBounds_toArray, List.set_cons_zero, List.set_cons_succ]; rfl)), ?_⟩
              refine mx_end hlow ?_
              replace y0 := y0.below hlow
              replace y1 := y1.below hlow
              replace y2 := y2.below hlow
              replace hW := hW.trans (hlow.mono hW.size)
              have hes : EsR wz Az Mz := hoz.esr (fun y hy => by
                rw [hMz.out] at hy
                rcases mem_insE hy with rfl | hy
                · exact HXO.out.below hW
                · exact (HE2.out.below hlow).ok y hy) (by rw [hMz.out, insE_len]; omega)
              have hpl : Hid (Mz.map EV.pl = T) := Lib.hid (by rw [hMz.out, pl_ins, HT2.out])
              have r0 := y2.cell 0
              have r1 := y2.cell 1
              simp only [List.getElem?_toArray, List.getElem?_cons_zero, List.getElem?_cons_succ] at r0 r1
              have fr := fun o => y2.frozen o
              have K1 := Lib.hid hes
              have HY := Lib.hid y2
              clear hoz hbz hMz hes hlow HE2
              go_wp2_with fail
              have kR : Fr (fun x => x = w.heap.size + 2) wz ((wz.setCell ⟨w.heap.size + 2, 0, none⟩ (.int .u64 s)).setCell ⟨w.heap.size + 2, 1, none⟩ (.slice Az Mz.length cz)) := ((Fr.refl (fun x => x = w.heap.size + 2) wz).setAt (w.heap.size + 2) _ rfl _).setAt (w.heap.size + 2) _ rfl _
              have yR := (y2.set_ 0 (.int .u64 s)).set_ 1 (.slice Az Mz.length cz)
              simp only [List.setIfInBounds_toArray, List.set_cons_zero, List.set_cons_succ] at yR
              have hwR : Below w.heap.size w ((wz.setCell ⟨w.heap.size + 2, 0, none⟩ (.int .u64 s)).setCell ⟨w.heap.size + 2, 1, none⟩ (.slice Az Mz.length cz)) := hW.trans (kR.below (B := w.heap.size) hW.size (fun k hk e => by omega))
              generalize ((wz.setCell ⟨w.heap.size + 2, 0, none⟩ (.int .u64 s)).setCell ⟨w.heap.size + 2, 1, none⟩ (.slice Az Mz.length cz)) = wR at *
              have s0 := yR.cell 0
              have s1 := yR.cell 1
              simp only [List.getElem?_toArray, List.getElem?_cons_zero, List.getElem?_cons_succ] at s0 s1
              refine bodyPost_ret (v := .tuple #[.agg #[.int .u64 s, .slice Az Mz.length cz], .int .i64 0]) (by simp [results, Tryz.results7, go_sem, s0, s1]) rfl ?_
              exact ⟨⟨Az, cz, Mz, rfl, hpl.out, K1.out.notBook HY.out (by simp) (by simp) kR⟩, hwR⟩
      · have hl2 : decide ((256 : Int) ≤ (M1.length : Int)) = false := decide_eq_false (by omega)
        obtain ⟨hT, rfl⟩ : T = putR (M.map EV.pl) (tl x.p) x.ep ∧ E = 0 := by
          have := HR2.out
          rw [if_neg (by
            rintro ⟨h1, h2⟩
            have h3 : M1.length = M.length := by
              have := congrArg List.length HM1.out
              have h4 : (withoutE x.p M).length = ((withoutE x.p M).map EV.pl).length := by simp
              rw [this, h4, pl_without, without_self (by simpa using h1)]
              simp
            omega)] at this
          simpa using this
        have HT2 : Hid (insR (tl x.p) x.ep (M1.map EV.pl) = T) := Lib.hid (by
          rw [hT, HM1.out, pl_without]
          rfl)
        clear hT HR2
        go_upto_region 18 with (fail)
        refine wp_region_m [true, true, true, true, false, true] (fun W => Below w5.heap.size w5 W) (by kernel_rfl) (by kernel_rfl) ?_
        simp only [List.length_cons, List.length_nil, Nat.zero_add, Nat.reduceAdd, List.take_succ_cons, List.take_zero, List.drop_succ_cons, List.drop_zero]
        refine mx_val (by kernel_rfl) ⟨_, (by (intro w' hC; clear hC; (try go_simp); (try with_reducible rfl); done)), _, (by (simp only [Act.put, List.setIfInBounds_toArray, List.set_cons_zero, List.set_cons_succ]; rfl)), ?_⟩
        refine mx_val (by kernel_rfl) ⟨_, (by (intro w' hC; (have q := (y0.below hC).cell 0; simp only [List.getElem?_toArray, List.getElem?_cons_zero] at q); clear hC; (try go_simp); (try with_reducible rfl); done)), _, (by (simp only [Act.put, List.setIfInBounds_toArray, List.set_cons_zero, List.set_cons_succ]; rfl)), ?_⟩
        refine mx_move _ (by kernel_rfl) rfl ⟨_, (by ((try simp [go_sem]); (try rfl); done)), _, (by (simp only [Act.put, List.setIfInBounds_toArray, List.set_cons_zero, List.set_cons_succ]; rfl)), ?_⟩
        refine mx_val (by kernel_rfl) ⟨_, (by (intro w' hC; (have q0 := (y1.below hC).cell 0; have q1 := (y1.below hC).cell 1; have q2 := (y1.below hC).cell 2; have q3 := (y1.below hC).cell 3; simp only [List.getElem?_toArray, List.getElem?_cons_zero, List.getElem?_cons_succ] at q0 q1 q2 q3); clear hC; (try go_simp); (try with_reducible rfl); done)), _, (by (simp only [Act.put, List.setIfInBounds_toArray, List.set_cons_zero, List.set_cons_succ]; rfl)), ?_⟩
        refine mx_call ((Below.refl _ _).drew) (by kernel_rfl) ?_ (refWith22_any A1 c1 M1 x w5.drew (HE1.out.below (Below.refl _ _).drew) hp (fun y hy => HP1.out y hy)) ?_
        · (go_simp; done)
        rintro e wz ⟨⟨Az, cz, Mz, rfl, hMz, hoz⟩, hbz⟩
        have hlow : Below w5.heap.size w5 wz := (Below.refl _ _).drew.trans (hbz.mono (Nat.le_refl _))
        refine ⟨_, rfl, _, (by (simp only [Act.put, List.setIfInBounds_toArray, List.set_cons_zero, List.set_cons_succ]; rfl)), ?_⟩
        refine mx_val (by kernel_rfl) ⟨_, (by (intro w' hC; clear hC; (try go_simp); (try with_reducible rfl); done)), _, (by (simp only [Act.put, List.setIfInBounds_toArray, List.set_cons_zero, List.set_cons_succ]; rfl)), ?_⟩
        refine mx_end hlow ?_
        replace y0 := y0.below hlow
        replace y1 := y1.below hlow
        replace y2 := y2.below hlow
        replace hW := hW.trans (hlow.mono hW.size)
        have hes : EsR wz Az Mz := hoz.esr (fun y hy => by
          rw [hMz.out] at hy
          rcases mem_insE hy with rfl | hy
          · exact HXO.out.below hW
          · exact (HE1.out.below hlow).ok y hy) (by rw [hMz.out, insE_len]; omega)
        have hpl : Hid (Mz.map EV.pl = T) := Lib.hid (by rw [hMz.out, pl_ins, HT2.out])
        have r0 := y2.cell 0
        have r1 := y2.cell 1
        simp only [List.getElem?_toArray, List.getElem?_cons_zero, List.getElem?_cons_succ] at r0 r1
        have fr := fun o => y2.frozen o
        have K1 := Lib.hid hes
        have HY := Lib.hid y2
        clear hoz hbz hMz hes hlow HE1
        go_wp2_with fail
        have kR : Fr (fun x => x = w.heap.size + 2) wz ((wz.setCell ⟨w.heap.size + 2, 0, none⟩ (.int .u64 s)).setCell ⟨w.heap.size + 2, 1, none⟩ (.slice Az Mz.length cz)) := ((Fr.refl (fun x => x = w.heap.size + 2) wz).setAt (w.heap.size + 2) _ rfl _).setAt (w.heap.size + 2) _ rfl _
        have yR := (y2.set_ 0 (.int .u64 s)).set_ 1 (.slice Az Mz.length cz)
        simp only [List.setIfInBounds_toArray, List.set_cons_zero, List.set_cons_succ] at yR
        have hwR : Below w.heap.size w ((wz.setCell ⟨w.heap.size + 2, 0, none⟩ (.int .u64 s)).setCell ⟨w.heap.size + 2, 1, none⟩ (.slice Az Mz.length cz)) := hW.trans (kR.below (B := w.heap.size) hW.size (fun k hk e => by omega))
        generalize ((wz.setCell ⟨w.heap.size + 2, 0, none⟩ (.int .u64 s)).setCell ⟨w.heap.size + 2, 1, none⟩ (.slice Az Mz.length cz)) = wR at *
        have s0 := yR.cell 0
        have s1 := yR.cell 1
        simp only [List.getElem?_toArray, List.getElem?_cons_zero, List.getElem?_cons_succ] at s0 s1
        refine bodyPost_ret (v := .tuple #[.agg #[.int .u64 s, .slice Az Mz.length cz], .int .i64 0]) (by simp [results, Tryz.results7, go_sem, s0, s1]) rfl ?_
        exact ⟨⟨Az, cz, Mz, rfl, hpl.out, K1.out.notBook HY.out (by simp) (by simp) kR⟩, hwR⟩
  · have hCb : (C != 0) = true := by simpa using hC0
    obtain ⟨hT, rfl⟩ : T = M.map EV.pl ∧ E = C := by
      have := HR.out
      unfold putP putB at this
      rw [if_pos (by rw [← HC.out]; exact hC0), ← HC.out] at this
      simpa using this
    have HT : Hid (M.map EV.pl = T) := Lib.hid hT.symm
    clear HR HC hT
    have p0 := y0.cell 0
    have p1 := y0.cell 1
    simp only [List.getElem?_toArray, List.getElem?_cons_zero, List.getElem?_cons_succ] at p0 p1
    have r0 := y2.cell 0
    have r1 := y2.cell 1
    simp only [List.getElem?_toArray, List.getElem?_cons_zero, List.getElem?_cons_succ] at r0 r1
    have fr := fun o => y2.frozen o
    have K1 := Lib.hid (HE.out.below hW)
    have HY := Lib.hid y2
    go_wp2_with fail
    have kR : Fr (fun x => x = w.heap.size + 2) w2 ((w2.setCell ⟨w.heap.size + 2, 0, none⟩ (.int .u64 s)).setCell ⟨w.heap.size + 2, 1, none⟩ (.slice A M.length c)) := ((Fr.refl (fun x => x = w.heap.size + 2) w2).setAt (w.heap.size + 2) _ rfl _).setAt (w.heap.size + 2) _ rfl _
    have yR := (y2.set_ 0 (.int .u64 s)).set_ 1 (.slice A M.length c)
    simp only [List.setIfInBounds_toArray, List.set_cons_zero, List.set_cons_succ] at yR
    have hwR : Below w.heap.size w ((w2.setCell ⟨w.heap.size + 2, 0, none⟩ (.int .u64 s)).setCell ⟨w.heap.size + 2, 1, none⟩ (.slice A M.length c)) := hW.trans (kR.below (B := w.heap.size) hW.size (fun k hk e => by omega))
    generalize ((w2.setCell ⟨w.heap.size + 2, 0, none⟩ (.int .u64 s)).setCell ⟨w.heap.size + 2, 1, none⟩ (.slice A M.length c)) = wR at *
    have s0 := yR.cell 0
    have s1 := yR.cell 1
    simp only [List.getElem?_toArray, List.getElem?_cons_zero, List.getElem?_cons_succ] at s0 s1
    refine bodyPost_ret (v := .tuple #[.agg #[.int .u64 s, .slice A M.length c], .int .i64 E]) (by simp [results, Tryz.results7, go_sem, s0, s1]) rfl ?_
    exact ⟨⟨A, c, M, rfl, HT.out, K1.out.notBook HY.out (by simp) (by simp) kR⟩, hwR⟩

end Go.Proofs.YtkeledbgmpienaaGreat

/- tenderref22: Same. -/
namespace Go.Proofs.YtkeledbgmpienaaGreat
open Go.RowKit

/-- entries in a slice, to be read; nothing said of the bytes' room -/
structure EsB (w : World) (A : Option Addr) (M : List EV) : Prop where
  rd : Rd w (fun _ => True) 4 A M.length (M.flatMap EV.cells)
  ok : ∀ x ∈ M, By w (fun _ => True) x.x.A x.x.l
  len : M.length ≤ 1000000
theorem EsB.below {w w' : World} {A : Option Addr} {M : List EV} (h : EsB w A M) (k : Below w.heap.size w w') : EsB w' A M := ⟨h.rd.below k, fun x hx => (h.ok x hx).below k, h.len⟩
theorem EsB.at_ {w : World} {A : Option Addr} {M : List EV} {i : Nat} (h : EsB w A M) (hi : i < M.length) :
    ∃ b off, A = some ⟨b, off, none⟩ ∧ b < w.heap.size ∧ w.cell? ⟨b, off + i * 4, none⟩ = some (.string M[i].p) ∧ w.cell? ⟨b, off + i * 4 + 1, none⟩ = some (.int .u64 M[i].v) ∧ w.cell? ⟨b, off + i * 4 + 2, none⟩ = some (.int .i64 M[i].k) ∧ w.cell? ⟨b, off + i * 4 + 3, none⟩ = some (.slice M[i].x.A M[i].x.l.length M[i].x.c) := by
  obtain ⟨b, off, hA, _, hb, hc⟩ := h.rd.2 (by omega)
  have hg : ∀ j, j < 4 → (M.flatMap EV.cells)[i * 4 + j]? = (EV.cells M[i])[j]? := fun j hj => flat_get (k := 4) ev_cells_len M i j hi hj
  refine ⟨b, off, hA, hb, hc _ _ (hg 0 (by omega)), ?_, ?_, ?_⟩
  · rw [Nat.add_assoc]; exact hc _ _ (hg 1 (by omega))
  · rw [Nat.add_assoc]; exact hc _ _ (hg 2 (by omega))
  · rw [Nat.add_assoc]; exact hc _ _ (hg 3 (by omega))

end Go.Proofs.YtkeledbgmpienaaGreat

/- book: New, Clone. -/
namespace Go.Proofs.YtkeledbgmpienaaGreat
open Go.RowKit Go.Maps Go.Shelf

end Go.Proofs.YtkeledbgmpienaaGreat

/- tenderlaw22: lives, Plays. -/
namespace Go.Proofs.YtkeledbgmpienaaGreat
open Go.RowKit Go.Maps

theorem Ents.esr {w : World} {Z : Nat → Prop} {A : Option Addr} {l : List EV} (h : Ents w Z A l) (hl : l.length ≤ 1000000) : EsR w A l := ⟨h.rd.mono (fun _ _ _ => trivial), fun x hx => (h.ok x hx).x.mono (fun _ _ _ => trivial), hl⟩
end Go.Proofs.YtkeledbgmpienaaGreat

/- tenderlaw22: lives. -/
namespace Go.Proofs.YtkeledbgmpienaaGreat
open Go.RowKit Go.Maps

end Go.Proofs.YtkeledbgmpienaaGreat

/- book.Book and tenderref22: Rows. -/
namespace Go.Proofs.YtkeledbgmpienaaGreat
open Go.RowKit Go.Maps

/-- a row's cells -/
def rowC (y : List UInt8 × EP) : List Value := [.string ⟨⟨y.1⟩⟩, .int .i64 y.2.2.1, .int .u64 y.2.1, .int .u64 0, .int .i64 (y.2.2.2.length : Int)]
theorem rowC_len (y : List UInt8 × EP) : (rowC y).length = 5 := rfl
def OwRw (w : World) (base : Nat) (A : Option Addr) (c : Nat) (l : List (List UInt8 × EP)) : Prop := w.ownsRow base 70 5 (.slice A l.length c) l.length (l.flatMap rowC)
theorem row_info : (Tryz.prog.info? 70).map (fun i => (i.zero, i.size, i.bytes)) = some (some (.agg #[.string ⟨#[]⟩, .int .i64 0, .int .u64 0, .int .u64 0, .int .i64 0]), 5, 48) := by kernel_rfl
end Go.Proofs.YtkeledbgmpienaaGreat

/- Rows of texts in the paths' order, no text twice: one put in; the highest number told of each text. No program. -/
namespace Go.Proofs.YtkeledbgmpienaaGreat

def sortedS (l : List (List UInt8)) : Prop := l.Pairwise fun a b => cmpT a b < 0
theorem sortedS_keys {α : Type} {L : List (List UInt8 × α)} (h : SortR L) : sortedS (keysR L) := by
  unfold sortedS keysR
  rw [List.pairwise_map]
  exact h
theorem sorted_eq {l m : List (List UInt8)} (hl : sortedS l) (hm : sortedS m) (h : ∀ q, q ∈ l ↔ q ∈ m) : l = m := by
  have k : ∀ l : List (List UInt8), keysR (l.map fun q => (q, ())) = l := fun l => by simp [keysR, Function.comp_def]
  have e : (l.map fun q => (q, ())) = m.map fun q => (q, ()) := SortR.ext (List.pairwise_map.2 hl) (List.pairwise_map.2 hm) fun p => by
    have h1 := getR_isSome (L := l.map fun q => (q, ())) (p := p)
    have h2 := getR_isSome (L := m.map fun q => (q, ())) (p := p)
    rw [k] at h1 h2
    have h3 := h p
    rcases g1 : getR (l.map fun q => (q, ())) p with _ | ⟨⟩ <;> rcases g2 : getR (m.map fun q => (q, ())) p with _ | ⟨⟩
    · rfl
    · rw [g1] at h1; rw [g2] at h2; simp at h1 h2; exact absurd (h3.2 h2) h1
    · rw [g1] at h1; rw [g2] at h2; simp at h1 h2; exact absurd (h3.1 h1) h2
    · rfl
  rw [← k l, e, k]
/-- how many stand ahead of p -/
def atS (p : List UInt8) : List (List UInt8) → Nat
  | [] => 0
  | q :: l => if cmpT q p < 0 then atS p l + 1 else 0
def insS (p : List UInt8) (l : List (List UInt8)) : List (List UInt8) := if l[atS p l]? = some p then l else l.take (atS p l) ++ p :: l.drop (atS p l)
/-- the place, told from the left -/
theorem atS_of {p : List UInt8} : ∀ {l : List (List UInt8)} {k : Nat}, k ≤ l.length → (∀ q ∈ l.take k, cmpT q p < 0) → (∀ h : k < l.length, ¬ cmpT l[k] p < 0) → atS p l = k
  | [], k, hk, _, _ => by simp at hk; simp [atS, hk]
  | q :: l, 0, _, _, h2 => by
    have h3 : ¬ cmpT q p < 0 := h2 (by simp)
    unfold atS
    rw [if_neg h3]
  | q :: l, k + 1, hk, h1, h2 => by
    have h3 : cmpT q p < 0 := h1 q (by simp)
    unfold atS
    rw [if_pos h3, atS_of (k := k) (by simpa using hk) (fun z hz => h1 z (by rw [List.take_succ_cons]; exact List.mem_cons_of_mem _ hz)) (fun h => h2 (by simp; omega))]
theorem ins_set {p : List UInt8} : ∀ {l : List (List UInt8)}, sortedS l → sortedS (insS p l) ∧ ∀ q, q ∈ insS p l ↔ q = p ∨ q ∈ l
  | [], _ => by simp [insS, atS, sortedS]
  | x :: l, h => by
    unfold sortedS at h
    rw [List.pairwise_cons] at h
    obtain ⟨ih1, ih2⟩ := ins_set (p := p) (l := l) h.2
    by_cases hx : cmpT x p < 0
    · have e : insS p (x :: l) = x :: insS p l := by
        have ha : atS p (x :: l) = atS p l + 1 := by rw [atS, if_pos hx]
        unfold insS
        rw [ha, List.getElem?_cons_succ, List.take_succ_cons, List.drop_succ_cons]
        split <;> rfl
      rw [e]
      refine ⟨?_, fun q => ?_⟩
      · unfold sortedS
        rw [List.pairwise_cons]
        refine ⟨fun y hy => ?_, ih1⟩
        rcases (ih2 y).1 hy with rfl | hy
        · exact hx
        · exact h.1 y hy
      · simp only [List.mem_cons, ih2]
        constructor
        · rintro (h | h | h)
          · exact .inr (.inl h)
          · exact .inl h
          · exact .inr (.inr h)
        · rintro (h | h | h)
          · exact .inr (.inl h)
          · exact .inl h
          · exact .inr (.inr h)
    · have e : insS p (x :: l) = if x = p then x :: l else p :: x :: l := by
        have ha : atS p (x :: l) = 0 := by rw [atS, if_neg hx]
        unfold insS
        rw [ha]
        simp
      rw [e]
      by_cases hxp : x = p
      · rw [if_pos hxp]
        subst hxp
        refine ⟨List.pairwise_cons.2 h, fun q => ?_⟩
        simp
      · rw [if_neg hxp]
        refine ⟨?_, fun q => by simp⟩
        have h0 : cmpT p x < 0 := by
          have h1 := ordT.flip x p
          have h2 : cmpT x p ≠ 0 := fun e => hxp ((cmpT_eq x p).1 e)
          omega
        unfold sortedS
        rw [List.pairwise_cons]
        refine ⟨fun y hy => ?_, List.pairwise_cons.2 h⟩
        rcases List.mem_cons.1 hy with rfl | hy
        · exact h0
        · exact ordT.trans _ _ _ h0 (h.1 y hy)
/-- the highest number told of each text -/
def bestV (l : List (List UInt8 × Int)) (p : List UInt8) : Int := l.foldl (fun v r => if r.1 = p ∧ v < r.2 then r.2 else v) 0
def theirsS (l : List (List UInt8 × Int)) : List (List UInt8 × Int) := l.foldl (fun T r => putR T r.1 (max ((getR T r.1).getD 0) r.2)) []
theorem bestV_snoc (l : List (List UInt8 × Int)) (r : List UInt8 × Int) (p : List UInt8) : bestV (l ++ [r]) p = if r.1 = p ∧ bestV l p < r.2 then r.2 else bestV l p := by unfold bestV; rw [List.foldl_append]; rfl
theorem theirsS_snoc (l : List (List UInt8 × Int)) (r : List UInt8 × Int) : theirsS (l ++ [r]) = putR (theirsS l) r.1 (max ((getR (theirsS l) r.1).getD 0) r.2) := by simp [theirsS, List.foldl_append]
theorem snoc_ind {α : Type} {motive : List α → Prop} (h0 : motive []) (h1 : ∀ l x, motive l → motive (l ++ [x])) (l : List α) : motive l := by
  have : ∀ n, ∀ l : List α, l.length = n → motive l := by
    intro n
    induction n with
    | zero => intro l hl; rw [List.eq_nil_of_length_eq_zero hl]; exact h0
    | succ n ih =>
      intro l hl
      have hne : l ≠ [] := by intro e; rw [e] at hl; simp at hl
      rw [← List.dropLast_concat_getLast hne]
      exact h1 _ _ (ih _ (by rw [List.length_dropLast]; omega))
  exact this _ l rfl
theorem theirs_sort (l : List (List UInt8 × Int)) : SortR (theirsS l) := by
  induction l using snoc_ind with
  | h0 => exact sortR_nil
  | h1 l r ih => rw [theirsS_snoc]; exact ih.put _ _
theorem theirs_get (l : List (List UInt8 × Int)) (p : List UInt8) : ((getR (theirsS l) p).getD 0 = bestV l p) ∧ ((getR (theirsS l) p).isSome = true ↔ p ∈ l.map (·.1)) := by
  induction l using snoc_ind with
  | h0 => simp [theirsS, bestV, getR_nil]
  | h1 l r ih =>
    obtain ⟨ih1, ih2⟩ := ih
    rw [theirsS_snoc, bestV_snoc, getR_put]
    by_cases h : p = r.1
    · subst h
      rw [if_pos rfl]
      refine ⟨?_, by simp⟩
      rw [Option.getD_some, ih1]
      split
      · rename_i h1; omega
      · rename_i h1
        have : ¬ bestV l r.1 < r.2 := fun e => h1 ⟨rfl, e⟩
        omega
    · rw [if_neg h, if_neg (fun e => h e.1.symm)]
      refine ⟨ih1, ?_⟩
      rw [ih2]
      simp [h]
theorem theirs_mem (l : List (List UInt8 × Int)) (p : List UInt8) : p ∈ keysR (theirsS l) ↔ p ∈ l.map (·.1) := by
  rw [← getR_isSome]
  exact (theirs_get l p).2
theorem theirs_len (l : List (List UInt8 × Int)) : (theirsS l).length ≤ l.length := by
  induction l using snoc_ind with
  | h0 => exact Nat.le_refl _
  | h1 l r ih =>
    rw [theirsS_snoc]
    unfold putR
    rw [ins_len, List.length_append]
    have := without_len_le (theirsS l) r.1
    simp
    omega
theorem sortedS.filter {l : List (List UInt8)} (h : sortedS l) (f : List UInt8 → Bool) : sortedS (l.filter f) := List.Pairwise.filter _ h
end Go.Proofs.YtkeledbgmpienaaGreat

/- BookFull is true for every input: where there are as many entries as may be, an entry of nothing goes for another one, that of the least version; if there is none the book is full. No condition beyond the row's own. -/
namespace Go.Proofs.YtkeledbgmpienaaGreat
open Go.RowKit Go.Maps

theorem EsOwn.esr {w : World} {base : Nat} {A : Option Addr} {c : Nat} {M : List EV} (h : EsOwn w base A c M) (hl : M.length ≤ 1000000) : EsR w A M :=
  h.row.esr (fun x hx => by
    obtain ⟨A', c', e, h2, h3, _⟩ := (h.byt x hx).form
    injection e with e1 e2 e3
    subst e1 e3
    exact ⟨(h.byt x hx).rd.mono (fun _ _ _ => trivial), h2, h3⟩) hl
end Go.Proofs.YtkeledbgmpienaaGreat

/- book: Older; tenderref22: best. -/
namespace Go.Proofs.YtkeledbgmpienaaGreat
open Go.RowKit Go.Maps

/-- a row told -/
structure RV where
  p : ByteArray
  k : Int
  v : Int
  s : Int
  z : Int
def RV.cells (o : RV) : List Value := [.string o.p, .int .i64 o.k, .int .u64 o.v, .int .u64 o.s, .int .i64 o.z]
def RV.pv (o : RV) : List UInt8 × Int := (tl o.p, o.v)
theorem rv_len (x : RV) : x.cells.length = 5 := rfl
/-- rows in a slice, to be read -/
structure RwR (w : World) (A : Option Addr) (l : List RV) : Prop where
  rd : Rd w (fun _ => True) 5 A l.length (l.flatMap RV.cells)
  ok : ∀ x ∈ l, x.p.size ≤ 1048576 ∧ 0 ≤ x.v ∧ x.v < 18446744073709551616
  len : l.length ≤ 1000000
theorem RwR.below {w w' : World} {A : Option Addr} {l : List RV} (h : RwR w A l) (k : Below w.heap.size w w') : RwR w' A l := ⟨h.rd.below k, h.ok, h.len⟩
theorem RwR.at_ {w : World} {A : Option Addr} {l : List RV} {i : Nat} (h : RwR w A l) (hi : i < l.length) :
    ∃ b off, A = some ⟨b, off, none⟩ ∧ b < w.heap.size ∧ w.cell? ⟨b, off + i * 5, none⟩ = some (.string l[i].p) ∧ w.cell? ⟨b, off + i * 5 + 1, none⟩ = some (.int .i64 l[i].k) ∧ w.cell? ⟨b, off + i * 5 + 2, none⟩ = some (.int .u64 l[i].v) ∧ w.cell? ⟨b, off + i * 5 + 3, none⟩ = some (.int .u64 l[i].s) ∧ w.cell? ⟨b, off + i * 5 + 4, none⟩ = some (.int .i64 l[i].z) := by
  obtain ⟨b, off, hA, _, hb, hc⟩ := h.rd.2 (by omega)
  have hg : ∀ j, j < 5 → (l.flatMap RV.cells)[i * 5 + j]? = (RV.cells l[i])[j]? := fun j hj => flat_get (k := 5) rv_len l i j hi hj
  refine ⟨b, off, hA, hb, hc _ _ (hg 0 (by omega)), ?_, ?_, ?_, ?_⟩
  · rw [Nat.add_assoc]; exact hc _ _ (hg 1 (by omega))
  · rw [Nat.add_assoc]; exact hc _ _ (hg 2 (by omega))
  · rw [Nat.add_assoc]; exact hc _ _ (hg 3 (by omega))
  · rw [Nat.add_assoc]; exact hc _ _ (hg 4 (by omega))
end Go.Proofs.YtkeledbgmpienaaGreat

/- rows as an argument: few and of short paths. -/
namespace Go.Proofs.YtkeledbgmpienaaGreat
open Go.RowKit

structure RV.ok (o : RV) : Prop where
  p : o.p.size ≤ 140737488355328
  v : 0 ≤ o.v ∧ o.v < 18446744073709551616
/-- rows in a slice -/
structure Rws (w : World) (A : Option Addr) (l : List RV) : Prop where
  rd : Rd w (fun _ => True) 5 A l.length (l.flatMap RV.cells)
  ok : ∀ o ∈ l, o.ok
  len : l.length ≤ 140737488355328
theorem Rws.below {w w' : World} {A : Option Addr} {l : List RV} (h : Rws w A l) (k : Below w.heap.size w w') : Rws w' A l := ⟨h.rd.below k, h.ok, h.len⟩
theorem Rws.at_ {w : World} {A : Option Addr} {l : List RV} {i : Nat} (h : Rws w A l) (hi : i < l.length) :
    ∃ b off, A = some ⟨b, off, none⟩ ∧ b < w.heap.size ∧ w.cell? ⟨b, off + i * 5, none⟩ = some (.string l[i].p) ∧ w.cell? ⟨b, off + i * 5 + 1, none⟩ = some (.int .i64 l[i].k) ∧ w.cell? ⟨b, off + i * 5 + 2, none⟩ = some (.int .u64 l[i].v) ∧ w.cell? ⟨b, off + i * 5 + 3, none⟩ = some (.int .u64 l[i].s) ∧ w.cell? ⟨b, off + i * 5 + 4, none⟩ = some (.int .i64 l[i].z) := by
  obtain ⟨b, off, hA, _, hb, hc⟩ := h.rd.2 (by omega)
  have hg : ∀ j, j < 5 → (l.flatMap RV.cells)[i * 5 + j]? = (RV.cells l[i])[j]? := fun j hj => flat_get (k := 5) rv_len l i j hi hj
  refine ⟨b, off, hA, hb, hc _ _ (hg 0 (by omega)), ?_, ?_, ?_, ?_⟩
  · rw [Nat.add_assoc]; exact hc _ _ (hg 1 (by omega))
  · rw [Nat.add_assoc]; exact hc _ _ (hg 2 (by omega))
  · rw [Nat.add_assoc]; exact hc _ _ (hg 3 (by omega))
  · rw [Nat.add_assoc]; exact hc _ _ (hg 4 (by omega))
def lensR (l : List RV) : Nat := (l.map fun o => o.p.size).sum
theorem lensR_take (l : List RV) (i : Nat) (hi : i < l.length) : lensR (l.take (i + 1)) = lensR (l.take i) + l[i].p.size := by
  unfold lensR
  rw [List.take_succ_eq_append_getElem hi, List.map_append, List.sum_append]
  simp
theorem lensR_le (K : Nat) : ∀ l : List RV, (∀ o ∈ l, o.p.size ≤ K) → lensR l ≤ l.length * K
  | [], _ => by simp [lensR]
  | o :: l, h => by
    have h1 := h o (by simp)
    have h2 := lensR_le K l (fun o ho => h o (by simp [ho]))
    simp only [lensR, List.map_cons, List.sum_cons, List.length_cons, Nat.add_mul] at h2 ⊢
    omega
theorem lensR_mem {l : List RV} {o : RV} (h : o ∈ l) : o.p.size ≤ lensR l := by
  induction l with
  | nil => cases h
  | cons y l ih =>
    simp only [lensR, List.map_cons, List.sum_cons] at *
    rcases List.mem_cons.1 h with rfl | h
    · omega
    · have := ih h; omega
/-- the sum that is made: right while few have been seen -/
def SeenR (m : Nat) (l : List RV) (i : Nat) (s : Int) : Prop := i ≤ m → s = (lensR (l.take i) : Int)
theorem SeenR.step {m : Nat} {l : List RV} {i : Nat} {s : Int} (hs : SeenR m l i s) (hm : m ≤ 1000) (hi : i < l.length) (h : ∀ o ∈ l, o.p.size ≤ 140737488355328) : SeenR m l (i + 1) (wrap64 (s + (l[i].p.size : Int))) := by
  intro hi2
  have e := hs (by omega)
  have h1 := lensR_le 140737488355328 (l.take (i + 1)) (fun o ho => h o (List.mem_of_mem_take ho))
  have h4 : (l.take (i + 1)).length ≤ i + 1 := List.length_take_le _ _
  have h2 := lensR_take l i hi
  have h3 : (l.take (i + 1)).length * 140737488355328 ≤ 1001 * 140737488355328 := Nat.mul_le_mul_right _ (by omega)
  rw [h2] at h1 ⊢
  rw [e, IntWalk.wrap64_in _ ⟨by omega, by omega⟩]
  omega
theorem Rws.rw {w : World} {A : Option Addr} {l : List RV} (h : Rws w A l) (hl : l.length ≤ 1000) (hs : lensR l ≤ 5000) : RwR w A l :=
  ⟨h.rd, fun x hx => ⟨by have := lensR_mem hx; omega, (h.ok x hx).v⟩, by omega⟩
/-- rows told of a book's entries -/
def rvS (T : List (List UInt8 × EP)) : List RV := T.map fun y => ⟨⟨⟨y.1⟩⟩, y.2.2.1, y.2.1, 0, y.2.2.2.length⟩
theorem rvS_len (T : List (List UInt8 × EP)) : (rvS T).length = T.length := by simp [rvS]
theorem rvS_cells (T : List (List UInt8 × EP)) : (rvS T).flatMap RV.cells = T.flatMap rowC := by
  unfold rvS
  rw [List.flatMap_map]
  rfl
theorem OwRw.rw {w : World} {base : Nat} {A : Option Addr} {c : Nat} {T : List (List UInt8 × EP)} (h : OwRw w base A c T) (hl : T.length ≤ 1000) (hT : ∀ y ∈ T, y.1.length ≤ 1048576 ∧ 0 ≤ y.2.1 ∧ y.2.1 < 18446744073709551616) : RwR w A (rvS T) := by
  refine ⟨?_, fun x hx => ?_, by rw [rvS_len]; omega⟩
  · rw [rvS_len, rvS_cells]
    exact Rd.of_own h (fun _ _ _ => trivial)
  · obtain ⟨y, hy, rfl⟩ := List.mem_map.1 hx
    have := hT y hy
    exact ⟨this.1, this.2⟩
end Go.Proofs.YtkeledbgmpienaaGreat

/- scan.Find and tenderref25: find. -/
namespace Go.Proofs.YtkeledbgmpienaaGreat
open Go.RowKit Go.Maps

/-- the first row of a path -/
def idxR (p : ByteArray) (l : List RV) : Option Nat := l.findIdx? fun x => decide (x.p = p)
def idxV (o : Option Nat) : Int := o.elim (-1) fun i => (i : Int)
theorem idxR_some {p : ByteArray} {l : List RV} {i : Nat} (hi : i < l.length) (h1 : ∀ x ∈ l.take i, x.p ≠ p) (h2 : l[i].p = p) : idxR p l = some i := by
  unfold idxR
  rw [List.findIdx?_eq_some_iff_getElem]
  refine ⟨hi, by simpa using h2, fun j hj => ?_⟩
  have : l[j] ∈ l.take i := List.mem_take_iff_getElem.2 ⟨j, by omega, rfl⟩
  simpa using h1 _ this
theorem idxR_none {p : ByteArray} {l : List RV} (h1 : ∀ x ∈ l, x.p ≠ p) : idxR p l = none := by
  unfold idxR
  rw [List.findIdx?_eq_none_iff]
  intro x hx
  simpa using h1 x hx
theorem idxR_get {p : ByteArray} {l : List RV} {i : Nat} (h : idxR p l = some i) : ∃ hi : i < l.length, l[i].p = p := by
  unfold idxR at h
  rw [List.findIdx?_eq_some_iff_getElem] at h
  obtain ⟨hi, h2, _⟩ := h
  exact ⟨hi, by simpa using h2⟩
def findRv (p : ByteArray) (l : List RV) : Option RV := (idxR p l).bind fun i => l[i]?
theorem take_neRv {p : ByteArray} {l : List RV} {i : Nat} (hi : i < l.length) (h1 : ∀ x ∈ l.take i, x.p ≠ p) (h2 : l[i].p ≠ p) : ∀ x ∈ l.take (i + 1), x.p ≠ p := by
  intro x hx
  rw [List.take_succ_eq_append_getElem hi] at hx
  rcases List.mem_append.1 hx with hx | hx
  · exact h1 x hx
  · rw [List.mem_singleton.1 hx]; exact h2
set_option maxRecDepth 100000 in
set_option maxHeartbeats 400000 in
theorem refFind25_any (A : Option Addr) (c : Nat) (l : List RV) (p : ByteArray) (w : World) (h : RwR w A l) :
    Calls Tryz.prog 25 #[.slice A l.length c, .string p] w fun e w' => e = .returned (.int .i64 (idxV (idxR p l))) ∧ Below w.heap.size w w' := by
  obtain ⟨R, hR⟩ : ∃ R, R = idxV (idxR p l) := ⟨_, rfl⟩
  rw [← hR]
  have HRR := Lib.hid hR
  have HR := Lib.hid h
  have hll := h.len
  clear h hR
  go_enter Tryz.func25, Tryz.ntmps25
  go_wp2_with fail
  go_loopw [5] (fun iv wr => ∃ i : Nat, i ≤ l.length ∧ iv = .int .i64 (i : Int) ∧ Hid (∀ x ∈ l.take i, x.p ≠ p) ∧ wr = w) (fun iv _ => l.length - (intOf iv).toNat)
  case atStart => exact ⟨0, Nat.zero_le _, rfl, by show ∀ x ∈ l.take 0, _; simp, rfl⟩
  case round =>
    obtain ⟨i, hi, rfl, hne, rfl⟩ := hrel
    by_cases hlt : i < l.length
    · obtain ⟨b, off, hA, hbb, c0, c1, c2, c3, c4⟩ := HR.out.at_ hlt
      have HT := Lib.hid (take_neRv hlt hne.out)
      have HS := Lib.hid (idxR_some hlt hne.out)
      obtain ⟨x, hx⟩ : ∃ x, x = l[i] := ⟨_, rfl⟩
      rw [← hx] at c0 c1 c2 c3 c4 HT HS
      subst hA
      clear hx hne
      by_cases he : x.p = p
      · have heq := eq_yes he
        have HV : Hid (R = (i : Int)) := Lib.hid (by rw [HRR.out, HS.out he]; rfl)
        clear he HS HT
        go_wp2_with fail
        go_ret
        exact ⟨by rw [HV.out]; rfl, Below.refl _ _⟩
      · have heq := eq_no he
        have HN := Lib.hid (HT.out he)
        clear he HS HT
        go_wp2_with fail
        go_roundw
        case rel => exact ⟨i + 1, hlt, by go_num, HN.out, trivial⟩
        case measure => simp [intOf]; omega
    · have e : i = l.length := by omega
      subst e
      have HV : Hid (R = -1) := Lib.hid (by
        have h2 := hne.out
        rw [List.take_length] at h2
        rw [HRR.out, idxR_none h2]; rfl)
      clear hne
      go_wp2_with fail
      go_ret
      exact ⟨by rw [HV.out]; rfl, Below.refl _ _⟩


end Go.Proofs.YtkeledbgmpienaaGreat

/- merge: the paths of a map of marks, in order. -/
namespace Go.Proofs.YtkeledbgmpienaaGreat
open Go.RowKit Go.Maps Go.Sort Go.Shelf

end Go.Proofs.YtkeledbgmpienaaGreat
