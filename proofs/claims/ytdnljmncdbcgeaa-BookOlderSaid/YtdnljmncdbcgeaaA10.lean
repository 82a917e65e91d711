/- book: Older. -/
import Derived.Test.YtdnljmncdbcgeaaA09

namespace Go.Proofs.Ytdnljmncdbcgeaa
open Go.RowKit Go.Maps

theorem str_infoB : (Try.prog.info? 9).map (fun i => (i.zero, i.size, i.bytes)) = some (some (.string ⟨#[]⟩), 1, 16) := by kernel_rfl
/-- append of one text -/
theorem wpList_append_one {w : World} {ops : Array Oper} {rest : List Oper} {o : Oper} {a : Act} {Q : Exit → Act → World → Prop} (hgd : o.guard = none) (s x : Operand) {t : TypeId} (hu : Try.prog.underlying t = some (.slice 9))
    (ho : o.op = .call { callee := .builtin .append, args := #[s, x], argTypes := #[t, t] })
    {base : Nat} {A : Option Addr} {c : Nat} {L : List (List UInt8)} {y : List UInt8} {g : Nat} (hs : a.eval s = .slice A L.length c) (hown : w.ownsRow base 9 1 (.slice A L.length c) L.length (L.map stv)) (hx : a.eval x = .slice (some ⟨g, 0, none⟩) 1 1) (hr : Rd w (fun _ => True) 1 (some ⟨g, 0, none⟩) 1 [stv y])
    (hsum : L.length + 1 ≤ 1099511627776) (hbase : base ≤ w.heap.size)
    (h : ∀ (A' : Option Addr) (c' : Nat) (w' : World), w'.ownsRow base 9 1 (.slice A' (L ++ [y]).length c') (L ++ [y]).length ((L ++ [y]).map stv) → w.grownBy w' (Value.slice A L.length c).ownBlock → wpList Try.prog ops Q rest (a.put o.dst (.slice A' (L.length + 1) c')) w') : wpList Try.prog ops Q (o :: rest) a w := by
  obtain ⟨i0, hi0, hz0, hz1, hz2⟩ := info_parts str_infoB
  refine wpList_append_any w hgd s x _ ho base 9 i0 _ 1 16 hu hi0 hz0 hz1 hz2 rfl (by omega) (.slice A L.length c) L.length (L.map stv) hs hown _ _ 1 1 [stv y] hx hr (fun u hu => by rw [List.mem_singleton.1 hu]; rfl) (by simp only [maxLen]; omega) (by omega) hbase ?_
  intro v' w' h1 h2 h3
  obtain ⟨A', c', rfl, _⟩ := own_form h1
  refine h A' c' w' ?_ h2
  rw [List.length_append, List.map_append]
  exact h1
theorem ver_got {L : List (List UInt8 × EV)} {p : List UInt8} {o : EV} (h : o = (getR L p).getD noE) : o.v = verP (plainB L) p := by
  rw [h]
  unfold verP
  rw [get_plainB]
  rcases getR L p with _ | o <;> rfl
theorem filt_snoc (seen : List (List UInt8)) (p : List UInt8) (f : List UInt8 → Bool) : (seen ++ [p]).filter f = if f p = true then seen.filter f ++ [p] else seen.filter f := by
  rw [List.filter_append]
  by_cases h : f p = true
  · rw [if_pos h, List.filter_cons, if_pos h]; rfl
  · rw [if_neg h, List.filter_cons, if_neg h]; simp
/-- what Older tells: two rows of texts -/
def OldOwn (w : World) (base : Nat) (e : Ending) (l m : List (List UInt8)) : Prop :=
  ∃ (A B : Option Addr) (c d : Nat) (l' m' : List (List UInt8)), e = .returned (.tuple #[.slice A l'.length c, .slice B m'.length d]) ∧ Hid (l' = l) ∧ Hid (m' = m) ∧ w.ownsRow base 9 1 (.slice A l'.length c) l'.length (l'.map stv) ∧ w.ownsRow base 9 1 (.slice B m'.length d) m'.length (m'.map stv)

set_option maxRecDepth 100000 in
set_option maxHeartbeats 4000000 in
theorem bookOlder_any (bb : Nat) (mo : Option Nat) (L : List (List UInt8 × EV)) (s : Int) (A : Option Addr) (c : Nat) (l : List RV) (w : World) (h : BookAt w bb mo L s) (hr : RwR w A l) :
    Calls Try.prog 29 #[.pointer (some ⟨bb, 0, none⟩), .slice A l.length c] w fun e w' => OldOwn w' w.heap.size e (fetchS (plainB L) (l.map RV.pv)) (giveS (plainB L) (l.map RV.pv)) ∧ Below w.heap.size w w' := by
  have HB := Lib.hid h
  have HR := Lib.hid hr
  have hll := hr.len
  have hw0 : Below w.heap.size w (w.alloc (.map #[] 0)) := (by repeat (first | exact Below.refl _ _ | refine Below.alloc ?_ (by simp) _ | refine Below.setCell ?_ (by simp) _ | refine Below.drew ?_))
  have hm0 : MapAt (w.alloc (.map #[] 0)) Try.prog 9 w.heap.size (mapI []) := MapAt.made w Try.prog 9
  obtain ⟨R, hRR⟩ : ∃ R, R = l.map RV.pv := ⟨_, rfl⟩
  have hRl : R.length = l.length := by rw [hRR]; simp
  have HRR := Lib.hid hRR
  obtain ⟨F, hF⟩ : ∃ F, F = fetchS (plainB L) (l.map RV.pv) := ⟨_, rfl⟩
  obtain ⟨G, hG⟩ : ∃ G, G = giveS (plainB L) (l.map RV.pv) := ⟨_, rfl⟩
  rw [← hF, ← hG]
  rw [← hRR] at hF hG
  have HF := Lib.hid hF
  have HG := Lib.hid hG
  have hmm := @run_makeMap Try.prog
  obtain ⟨mb, hmb⟩ : ∃ mb, mb = w.heap.size := ⟨_, rfl⟩
  rw [← hmb] at hm0
  clear h hr hF hG hRR
  go_enter Try.func29, Try.ntmps29
  go_upto_region 2 with (fail)
  clear hmm
  generalize w.alloc (.map #[] 0) = w1 at *
  rw [← hmb]
  have HM0 := Lib.hid hm0
  have hs1 := hw0.size
  have hml := hm0.lt
  have hmw : w.heap.size ≤ mb := by omega
  clear hm0 hmb
  go_wp2_with fail
  go_loopw [20] (fun iv wr => ∃ i : Nat, i ≤ l.length ∧ iv = .int .i64 (i : Int) ∧ MapAt wr Try.prog 9 mb (mapI (theirsS (R.take i))) ∧ Below w.heap.size w wr) (fun iv _ => l.length - (intOf iv).toNat)
  case atStart => exact ⟨0, Nat.zero_le _, rfl, HM0.out, hw0⟩
  case round =>
    clear HM0
    obtain ⟨i, hi, rfl, hm, hb⟩ := hrel
    by_cases hlt : i < l.length
    · obtain ⟨b, off, hA, hbb, c0, c1, c2, c3, c4⟩ := (HR.out.below hb).at_ hlt
      have hxo := HR.out.ok _ (List.getElem_mem hlt)
      have hs : theirsS (R.take (i + 1)) = putR (theirsS (R.take i)) (tl l[i].p) (max ((getR (theirsS (R.take i)) (tl l[i].p)).getD 0) l[i].v) := by
        have : R.take (i + 1) = R.take i ++ [l[i].pv] := by rw [HRR.out, ← List.map_take, ← List.map_take, pv_snoc l i hlt]
        rw [this, theirsS_snoc]
        rfl
      obtain ⟨x, hx⟩ : ∃ x, x = l[i] := ⟨_, rfl⟩
      rw [← hx] at c0 c1 c2 c3 c4 hs hxo
      have hTl : (theirsS (R.take i)).length ≤ 1000000 := by
        have := theirs_len (R.take i)
        rw [List.length_take] at this
        omega
      obtain ⟨T, hT⟩ : ∃ T, T = theirsS (R.take i) := ⟨_, rfl⟩
      rw [← hT] at hm hs hTl
      have hba : Below wr.heap.size wr (wr.alloc (.cells #[.string x.p, .int .i64 x.k, .int .u64 x.v, .int .u64 x.s, .int .i64 x.z] 52)) := (Below.refl _ _).alloc (Nat.le_refl _) _
      have z2 := Blk.new wr 52 #[.string x.p, .int .i64 x.k, .int .u64 x.v, .int .u64 x.s, .int .i64 x.z]
      have hm2 := hm.below hba
      have hw2 := hb.trans (hba.mono hb.size)
      have hxs : (tl x.p).length ≤ 1048576 := by rw [tl_len]; omega
      subst hA
      clear hx hT hm
      go_upto_region 5 with (fail)
      generalize wr.alloc (.cells #[.string x.p, .int .i64 x.k, .int .u64 x.v, .int .u64 x.s, .int .i64 x.z] 52) = w2 at *
      have q0 := z2.cell 0
      have q1 := z2.cell 1
      have q2 := z2.cell 2
      have q3 := z2.cell 3
      have q4 := z2.cell 4
      simp only [List.getElem?_toArray, List.getElem?_cons_zero, List.getElem?_cons_succ] at q0 q1 q2 q3 q4
      have hlk := look_mapI hm2 (tl x.p) (by simp only [maxLen]; omega)
      obtain ⟨u, hu⟩ : ∃ u, u = (getR T (tl x.p)).getD 0 := ⟨_, rfl⟩
      rw [← hu] at hlk hs
      obtain ⟨w3, hrun3, hm3, hg3, _⟩ := hm2.store Try.underlying9 (t := 127) (e := 23) Try.underlying127 (tl x.p) (by simp only [maxLen]; omega) (.int .u64 (max u x.v)) (by simp only [mapI, List.length_map, maxLen]; omega)
      rw [← mapI_put, ← hs] at hm3
      have hw3 := hw2.trans (grown_below (B := w.heap.size) hg3 hw2.size (fun g e => by injection e with e; omega))
      have HM3 := Lib.hid hm3
      clear hba c0 c1 c2 c3 c4 hs hu hm2 hm3
      go_wp2_with fail
      go_roundw
      case rel => exact ⟨i + 1, hlt, by go_num, HM3.out, hw3⟩
      case measure => simp [intOf]; omega
    · have e : i = l.length := by omega
      subst e
      rw [show R.take l.length = R by rw [← hRl, List.take_length]] at hm
      clear hlt hi
      obtain ⟨w4, hw4e⟩ : ∃ w4, w4 = wr := ⟨_, rfl⟩
      rw [← hw4e] at hm hb
      have hTs := theirs_sort R
      have hTg := theirs_get R
      have hTm := theirs_mem R
      have hTl : (theirsS R).length ≤ 1000000 := by have := theirs_len R; omega
      obtain ⟨T, hT⟩ : ∃ T, T = theirsS R := ⟨_, rfl⟩
      rw [← hT] at hm hTs hTl
      have HTS := Lib.hid hTs
      have HTG : Hid (∀ p u, (p, u) ∈ T → u = bestV R p) := Lib.hid (fun p u hu => by
        have := HTS.out.get hu
        rw [← (hTg p).1, ← hT, this]
        rfl)
      have HTM : Hid (∀ p, p ∈ keysR T → p.length ≤ 1048576) := Lib.hid (fun p hp => by
        rw [hT] at hp
        have := (hTm p).1 hp
        rw [HRR.out, List.map_map] at this
        obtain ⟨x, hx, rfl⟩ := List.mem_map.1 this
        have h2 := (HR.out.ok x hx).1
        show (tl x.p).length ≤ _
        rw [tl_len]; exact h2)
      have HF2 : Hid (F = (keysR T).filter fun p => decide (verP (plainB L) p < bestV R p)) := Lib.hid (by rw [HF.out, hT]; rfl)
      have HGL : Hid (∀ p, p.length ≤ maxLen → ∀ W, MapAt W Try.prog 9 mb (mapI T) → (Instr.lookup 127 (.map (some mb)) (.string ⟨⟨p⟩⟩) false).run Try.prog W = .ok (.int .u64 (bestV R p)) W) := Lib.hid (fun p hp W hW => by
        rw [look_mapI hW p hp, hT, (hTg p).1])
      clear hTs hTg hTm hT HF
      have HM4 := Lib.hid hm
      have HB4 := Lib.hid (HB.out.below hb)
      obtain ⟨w5, hrun5, hr5, hg5, hs5⟩ := hm.range Try.underlying9 Try.underlying127
      have hb5 : Below w.heap.size w w5 := hb.trans (grown_below hg5 hb.size (by simp))
      have hs4 := hb.size
      have hmb4 := hm.lt
      subst hw4e
      clear hm
      go_wp2_with fail
      go_loopw [4] (fun ov wr => ∃ (seen : List (List UInt8)) (cnt : Nat) (ss : List (List UInt8)) (A' : Option Addr) (c' : Nat), ov = .slice A' ss.length c' ∧ Rng wr Try.prog 9 mb w4.heap.size (mapI T) seen cnt ∧ seen.length ≤ T.length ∧ wr.ownsRow (w4.heap.size + 1) 9 1 (.slice A' ss.length c') ss.length (ss.map stv) ∧ Hid (ss = seen.filter fun p => decide (verP (plainB L) p < bestV R p)) ∧ Below w.heap.size w wr) (fun _ wr => wr.rangeLeft mb w4.heap.size)
      case atStart => exact ⟨[], _, [], none, 0, rfl, hr5, by simp, World.ownsRow_nil _ _ _ _, rfl, hb5⟩
      case round =>
        obtain ⟨seen, cnt, ss, A', c', rfl, hr, hsl, hown, hss, hbr⟩ := hrel
        have hlr := hr.lt
        have hsz := hbr.size
        have hssl : ss.length ≤ 1000000 := by
          have h2 : ss.length ≤ seen.length := by rw [hss.out]; exact List.length_filter_le _ _
          omega
        rcases hr.next Try.underlying9 0 with ⟨hrun, h0, hnd, hall⟩ | ⟨p, v, w6, cnt1, hpv, hpn, hrun, hr1, hlt, hg1, hs1', hen⟩
        · have hfin : ss.mergeSort leT = F := by
            rw [hss.out, HF2.out]
            refine sort_keys HTS.out _ (hnd.filter _) fun k => ?_
            rw [List.mem_filter, hall, keys_mapI]
          have hssx : ∀ x ∈ ss, x.length ≤ 140737488355328 := fun x hx => by
            rw [hss.out, List.mem_filter, hall, keys_mapI] at hx
            have := HTM.out x hx.1
            omega
          have HFN := Lib.hid hfin
          have HST := Lib.hid (sortsT _ A' c' ss _ hown hssx (by omega))
          have hml := (Row.of_own hown).lt
          have HMR := Lib.hid hr.at_
          clear hfin hss hall hnd hssx hown
          go_wp2_with fail
          refine HST.out.mono ?_
          rintro e w7 ⟨rfl, hown7, hg7⟩
          have hw7 : Below w.heap.size w w7 := hbr.trans (grown_below hg7 hsz (fun g hg => by have := hml g hg; omega))
          have HM7 := Lib.hid (HMR.out.kept hg7 (fun e => by have := hml mb e.symm; omega))
          rw [HFN.out] at hown7
          have HO7 := Lib.hid (own_base hown7 (base' := w.heap.size) (fun g hg => by have := (hown7.lt g hg).1; omega))
          have HB7 := Lib.hid (HB.out.below hw7)
          have hFl : F.length = ss.length := by rw [← HFN.out]; exact List.length_mergeSort ss
          rw [← hFl] at HO7
          have HFL := Lib.hid hFl
          have HPA := Lib.hid (bookPaths_any bb mo L s w7 HB7.out)
          clear hown7 hg7 HST HMR hr hrun hbr HB4
          go_wp2_with fail
          rw [← HFL.out]
          clear hFl hssl HFN
          refine HPA.out.mono ?_
          rintro e w8 ⟨A8, c8, rfl, ho8, hb8⟩
          have hw8 := hw7.trans (hb8.mono hw7.size)
          have HO8 := Lib.hid ho8
          have HM8 := Lib.hid (HM7.out.below hb8)
          have HB8 := Lib.hid (HB7.out.below hb8)
          have HF8 := Lib.hid (own_below HO7.out hb8)
          have hLl := HB8.out.len
          have hs8 := hw8.size
          clear HPA ho8 hb8 HM7 HB7 HO7
          go_wp2_with fail
          have HKS := Lib.hid (fun x (hx : x ∈ L) => HB8.out.keys hx)
          have HG2 : Hid (G = (keysR L).filter fun p => decide (bestV R p < verP (plainB L) p)) := Lib.hid (by rw [HG.out]; unfold giveS; rw [keys_plainB])
          have hkl : (keysR L).length = L.length := keys_len L
          go_loopw [5, 61] (fun gv iv wr => ∃ (i : Nat) (A' : Option Addr) (c' : Nat) (g : List (List UInt8)), i ≤ L.length ∧ iv = .int .i64 (i : Int) ∧ gv = .slice A' g.length c' ∧ Hid (g = ((keysR L).take i).filter fun p => decide (bestV R p < verP (plainB L) p)) ∧ g.length ≤ i ∧ wr.ownsRow w8.heap.size 9 1 (.slice A' g.length c') g.length (g.map stv) ∧ Below w8.heap.size w8 wr) (fun _ iv _ => L.length - (intOf iv).toNat)
          case atStart => exact ⟨0, none, 0, [], Nat.zero_le _, rfl, rfl, rfl, Nat.le_refl _, World.ownsRow_nil _ _ _ _, Below.refl _ _⟩
          case round =>
            obtain ⟨i, A9, c9, g, hi, rfl, rfl, hg, hgi, hog, hb9⟩ := hrel
            have hbr9 := hw8.trans (hb9.mono hw8.size)
            by_cases hlt : i < L.length
            · have hlk : i < (keysR L).length := by omega
              obtain ⟨b, off, hA, hbb, c0⟩ := txt_atE hkl.symm (own_below HO8.out hb9) (i := i) hlk
              have hk96 : ((keysR L)[i]).length ≤ 96 := by
                obtain ⟨x, hx, e⟩ := List.mem_map.1 (List.getElem_mem hlk)
                rw [← e]; exact HKS.out x hx
              have hfs := filt_snoc ((keysR L).take i) (keysR L)[i] (fun p => decide (bestV R p < verP (plainB L) p))
              rw [← List.take_succ_eq_append_getElem hlk, ← hg.out] at hfs
              obtain ⟨p, hp⟩ : ∃ p, p = (keysR L)[i] := ⟨_, rfl⟩
              rw [← hp] at c0 hk96 hfs
              simp only [stv] at c0
              subst hA
              have HGT := Lib.hid (bookget_any bb mo L s p wr (HB8.out.below hb9) (by simp only [maxLen]; omega))
              have HFS := Lib.hid hfs
              clear hlk hp hg hfs
              go_wp2_with fail
              refine HGT.out.mono ?_
              rintro e w10 ⟨⟨o, rfl, ho⟩, hb10⟩
              have HOV := Lib.hid (ver_got ho.out)
              have hba : Below w10.heap.size w10 (w10.alloc (.cells #[.string o.p, .int .u64 o.v, .int .i64 o.k, .slice o.x.A o.x.l.length o.x.c] 28)) := (Below.refl _ _).alloc (Nat.le_refl _) _
              have z11 := Blk.new w10 28 #[.string o.p, .int .u64 o.v, .int .i64 o.k, .slice o.x.A o.x.l.length o.x.c]
              have hw11 := (hb9.trans (hb10.mono hb9.size)).trans (hba.mono (Nat.le_trans hb9.size hb10.size))
              have hog11 := own_below (own_below hog hb10) hba
              have hlook := HGL.out p (by simp only [maxLen]; omega) _ (HM8.out.below hw11)
              clear HGT hog hb10 ho
              go_upto_region 18 with (fail)
              generalize w10.alloc (.cells #[.string o.p, .int .u64 o.v, .int .i64 o.k, .slice o.x.A o.x.l.length o.x.c] 28) = w11 at *
              have q0 := z11.cell 0
              have q1 := z11.cell 1
              have q2 := z11.cell 2
              have q3 := z11.cell 3
              simp only [List.getElem?_toArray, List.getElem?_cons_zero, List.getElem?_cons_succ] at q0 q1 q2 q3
              clear hba z11
              have hs11 := hw11.size
              obtain ⟨bv', hbv⟩ : ∃ bv', bv' = bestV R p := ⟨_, rfl⟩
              rw [← hbv] at hlook HFS
              rw [← HOV.out] at HFS
              clear hbv HOV
              by_cases hlu : bv' < o.v
              · have hd : decide (bv' < o.v) = true := decide_eq_true hlu
                have hfs := HFS.out
                rw [if_pos hd] at hfs
                have HFS2 := Lib.hid hfs
                have HO := Lib.hid (World.ownsRow.alloc hog11 (.cells #[stv p] 9))
                have hra : Hid (Rd (w11.alloc (.cells #[stv p] 9)) (fun _ => True) 1 (some ⟨w11.heap.size, 0, none⟩) 1 [stv p]) := (Rd.lit (w := w11) (t := 9) (size := 1) (n := 1) (xs := [stv p]) rfl rfl rfl).mono (fun _ _ _ => trivial)
                have hlb := hog11.lt
                clear hfs hog11 HFS
                go_wp2_with (at_builtin; refine wpList_append_one rfl (.tmp 77) (.tmp 79) (t := 63) rfl rfl rfl HO.out rfl hra.out (by omega) (by simp; omega) ?_; intro A3 c3 w3 hown3 hg3)
                have hb3 : Below w8.heap.size w8 w3 := (hw11.alloc hs11 _).trans (grown_below hg3 (by simp; omega) (fun g hg => by have := (hlb _ hg).1; omega))
                go_roundw
                case rel => exact ⟨i + 1, A3, c3, g ++ [p], hlt, by go_num, by simp, HFS2.out.symm, by simp; omega, hown3, hb3⟩
                case measure => simp [intOf]; omega
              · have hd : decide (bv' < o.v) = false := decide_eq_false hlu
                have hfs := HFS.out
                rw [if_neg (by rw [hd]; simp)] at hfs
                have HFS2 := Lib.hid hfs
                clear hfs HFS
                go_wp2_with fail
                go_roundw
                case rel => exact ⟨i + 1, A9, c9, g, hlt, by go_num, rfl, HFS2.out.symm, by omega, hog11, hw11⟩
                case measure => simp [intOf]; omega
            · have e : i = L.length := by omega
              subst e
              have HG3 : Hid (g = G) := Lib.hid (by rw [hg.out, HG2.out, ← hkl, List.take_length])
              have hs89 := hb9.size
              clear hg
              go_wp2_with fail
              refine bodyPost_ret (v := .tuple #[.slice A' F.length c', .slice A9 g.length c9]) (by simp [results, Try.results29, go_sem]) rfl ?_
              exact ⟨⟨A', A9, c', c9, F, g, rfl, rfl, HG3.out, own_below HF8.out hb9, own_base hog (fun g hg => Nat.le_trans hs8 (hog.lt _ hg).1)⟩, hbr9⟩
        · obtain ⟨⟨p', u⟩, hpu, hye⟩ := List.mem_map.1 hpv
          injection hye with e1 e2
          subst e1
          subst e2
          simp only at hrun hen hr1 hpn
          obtain ⟨p, hp⟩ : ∃ p, p = p' := ⟨_, rfl⟩
          have hub := HTG.out _ _ hpu
          have hpk : p' ∈ keysR T := List.mem_map.2 ⟨_, hpu, rfl⟩
          have hpl := HTM.out _ hpk
          have hb6 : Below w.heap.size w w6 := hbr.trans (grown_below hg1 hsz (fun g hg => by injection hg with hg; omega))
          have hown6 : w6.ownsRow (w4.heap.size + 1) 9 1 (.slice A' ss.length c') ss.length (ss.map stv) := own_fr hown (Fr.of_grown hg1 (S := fun g => g = w4.heap.size) (fun k _ e => by injection e with e; exact e.symm)) (fun g hg e => by have := (hown.lt g hg).1; omega)
          have hsl2 : (seen ++ [p']).length ≤ T.length := by
            obtain ⟨D, left, _, h4, hcol⟩ := hr1.rng
            have h2 : (seen ++ [p']) ⊆ keysR (mapI T) := fun k hk => by
              have := ((hcol.2 k).1 hk).1
              rw [h4.has] at this
              exact getR_isSome.1 this
            have := nodup_len _ _ hcol.1 h2
            rw [keys_len] at this
            simpa [mapI] using this
          have hfs := filt_snoc seen p' (fun p => decide (verP (plainB L) p < bestV R p))
          rw [← hss.out] at hfs
          have hleft := hr.left_eq
          have HG6 := Lib.hid (bookget_any bb mo L s p' w6 (HB.out.below hb6) (by simp only [maxLen]; omega))
          subst hp
          have HFS := Lib.hid hfs
          have HUB := Lib.hid hub
          clear hss hown hr hbr hpv hpn hpu hub hfs
          go_wp2_with fail
          refine HG6.out.mono ?_
          rintro e w7 ⟨⟨o, rfl, ho⟩, hb7⟩
          have hov := ver_got ho.out
          have hba : Below w7.heap.size w7 (w7.alloc (.cells #[.string o.p, .int .u64 o.v, .int .i64 o.k, .slice o.x.A o.x.l.length o.x.c] 28)) := (Below.refl _ _).alloc (Nat.le_refl _) _
          have z8 := Blk.new w7 28 #[.string o.p, .int .u64 o.v, .int .i64 o.k, .slice o.x.A o.x.l.length o.x.c]
          have hw8 := (hb6.trans (hb7.mono hb6.size)).trans (hba.mono (Nat.le_trans hb6.size hb7.size))
          have hr8 := (hr1.kept (below_grown hb7) (by simp) (by simp)).kept (below_grown hba) (by simp) (by simp)
          have hown8 := own_below (own_below hown6 hb7) hba
          have hs67 := hb7.size
          have hs78 := hba.size
          have HOV := Lib.hid hov
          clear HG6 hown6 hr1 hb7 ho hov
          go_upto_region 11 with (fail)
          generalize w7.alloc (.cells #[.string o.p, .int .u64 o.v, .int .i64 o.k, .slice o.x.A o.x.l.length o.x.c] 28) = w8 at *
          have q0 := z8.cell 0
          have q1 := z8.cell 1
          have q2 := z8.cell 2
          have q3 := z8.cell 3
          simp only [List.getElem?_toArray, List.getElem?_cons_zero, List.getElem?_cons_succ] at q0 q1 q2 q3
          clear hba z8
          by_cases hlu : o.v < u
          · have hd : decide (o.v < u) = true := decide_eq_true hlu
            have hfs := HFS.out
            rw [if_pos (by rw [← HOV.out, ← HUB.out]; exact hd)] at hfs
            have HFS2 := Lib.hid hfs
            have hs8 := hw8.size
            have HO := Lib.hid (World.ownsRow.alloc hown8 (.cells #[stv p] 9))
            have hr9 := hr8.kept (World.grownBy_alloc w8 (.cells #[stv p] 9) none) (by simp) (by simp)
            have hra : Hid (Rd (w8.alloc (.cells #[stv p] 9)) (fun _ => True) 1 (some ⟨w8.heap.size, 0, none⟩) 1 [stv p]) := (Rd.lit (w := w8) (t := 9) (size := 1) (n := 1) (xs := [stv p]) rfl rfl rfl).mono (fun _ _ _ => trivial)
            have hlb := hown8.lt
            clear hfs hown8 hr8 HFS
            go_wp2_with (at_builtin; refine wpList_append_one rfl (.tmp 52) (.tmp 54) (t := 63) rfl rfl rfl HO.out rfl hra.out (by omega) (by simp; omega) ?_; intro A3 c3 w3 hown3 hg3)
            have hr3 : Rng w3 Try.prog 9 mb w4.heap.size (mapI T) (seen ++ [p]) cnt1 := hr9.kept hg3 (fun e => by have := (hlb _ e.symm).1; omega) (fun e => by have := (hlb _ e.symm).1; omega)
            have hb3 : Below w.heap.size w w3 := (hw8.alloc hs8 _).trans (grown_below hg3 (by simp; omega) (fun g hg => by have := (hlb _ hg).1; omega))
            go_roundw
            case rel => exact ⟨seen ++ [p], cnt1, ss ++ [p], A3, c3, by simp, hr3, hsl2, hown3, HFS2.out.symm, hb3⟩
            case measure => rw [hr3.left_eq, hleft]; omega
          · have hd : decide (o.v < u) = false := decide_eq_false hlu
            have hfs := HFS.out
            rw [if_neg (by rw [← HOV.out, ← HUB.out, hd]; simp)] at hfs
            have HFS2 := Lib.hid hfs
            clear hfs HFS
            go_wp2_with fail
            go_roundw
            case rel => exact ⟨seen ++ [p], cnt1, ss, A', c', rfl, hr8, hsl2, hown8, HFS2.out.symm, hw8⟩
            case measure => rw [hr8.left_eq, hleft]; omega

end Go.Proofs.Ytdnljmncdbcgeaa

/- tenderref22: Older. -/
namespace Go.Proofs.Ytdnljmncdbcgeaa
open Go.RowKit Go.Maps

/-- append of texts -/
theorem wpList_append_sts {w : World} {ops : Array Oper} {rest : List Oper} {o : Oper} {a : Act} {Q : Exit → Act → World → Prop} (hgd : o.guard = none) (s x : Operand) {t : TypeId} (hu : Try.prog.underlying t = some (.slice 9))
    (ho : o.op = .call { callee := .builtin .append, args := #[s, x], argTypes := #[t, t] })
    {base : Nat} {A : Option Addr} {c n : Nat} {L : List (List UInt8)} {M : List (List UInt8)} {B : Option Addr} {d m : Nat} {Z : Nat → Prop} (hs : a.eval s = .slice A n c) (hn : n = L.length) (hown : w.ownsRow base 9 1 (.slice A n c) n (L.map stv)) (hx : a.eval x = .slice B m d) (hr : Rd w Z 1 B m (M.map stv))
    (hsum : L.length + M.length ≤ 1099511627776) (hbase : base ≤ w.heap.size)
    (h : ∀ (A' : Option Addr) (c' : Nat) (w' : World), w'.ownsRow base 9 1 (.slice A' (L ++ M).length c') (L ++ M).length ((L ++ M).map stv) → Below base w w' → w.grownBy w' (Value.slice A n c).ownBlock → ((Value.slice A' (L ++ M).length c').ownBlock = (Value.slice A n c).ownBlock ∨ (Value.slice A' (L ++ M).length c').ownBlock = some w.heap.size) → wpList Try.prog ops Q rest (a.put o.dst (.slice A' (L ++ M).length c')) w') : wpList Try.prog ops Q (o :: rest) a w := by
  obtain ⟨i0, hi0, hz0, hz1, hz2⟩ := info_parts str_infoB
  have hm : m = M.length := by have := hr.1; simp at this; omega
  subst hn hm
  refine wpList_append_any w hgd s x _ ho base 9 i0 _ 1 16 hu hi0 hz0 hz1 hz2 rfl (by omega) (.slice A L.length c) L.length (L.map stv) hs hown Z B M.length d (M.map stv) hx hr (fun u hu => by obtain ⟨y, _, rfl⟩ := List.mem_map.1 hu; rfl) (by simp only [maxLen]; omega) (by omega) hbase ?_
  intro v' w' h1 h2 h3
  rw [← List.length_append, ← List.map_append] at h1
  obtain ⟨A', c', rfl, _⟩ := own_form h1
  exact h A' c' w' h1 (grown_below h2 hbase (fun g e => (hown.lt g e).1)) h2 h3
theorem own_rd {w : World} {base : Nat} {A : Option Addr} {c : Nat} {l : List (List UInt8)} (h : w.ownsRow base 9 1 (.slice A l.length c) l.length (l.map stv)) : Rd w (fun b => ablk A = some b) 1 A l.length (l.map stv) := Rd.of_own h (fun _ hb _ => hb)

set_option maxRecDepth 100000 in
set_option maxHeartbeats 4000000 in
theorem refOlder_any (A : Option Addr) (c : Nat) (M : List EV) (s : Int) (B : Option Addr) (d : Nat) (l : List RV) (w : World) (h : EsR w A M) (hr : RwR w B l) (hM : ∀ x ∈ M, x.p.size ≤ 1048576) (hst : SortR (M.map EV.pl)) :
    Calls Try.prog 30 #[.agg #[.int .u64 s, .slice A M.length c], .slice B l.length d] w fun e w' => OldOwn w' w.heap.size e (fetchS (M.map EV.pl) (l.map RV.pv)) ((keysR (M.map EV.pl)).filter fun p => decide (bestV (l.map RV.pv) p < verP (M.map EV.pl) p)) ∧ Below w.heap.size w w' := by
  have hw1 : Below w.heap.size w (w.alloc (.cells #[.int .u64 s, .slice A M.length c] 33)) := (by repeat (first | exact Below.refl _ _ | refine Below.alloc ?_ (by simp) _ | refine Below.setCell ?_ (by simp) _ | refine Below.drew ?_))
  have x1 := Blk.new w 33 #[.int .u64 s, .slice A M.length c]
  have HE := Lib.hid (h.below hw1)
  have HR := Lib.hid (hr.below hw1)
  have HMP := Lib.hid hM
  have hll := hr.len
  have hMl := h.len
  obtain ⟨R, hRR⟩ : ∃ R, R = l.map RV.pv := ⟨_, rfl⟩
  obtain ⟨T, hTT⟩ : ∃ T, T = M.map EV.pl := ⟨_, rfl⟩
  rw [← hRR, ← hTT]
  have hTl : T.length = M.length := by rw [hTT]; simp
  have HRR := Lib.hid hRR
  have HTT := Lib.hid hTT.symm
  have HSR := Lib.hid hst
  rw [← hTT] at HSR
  clear h hr hM hRR hTT hst
  go_enter Try.func30, Try.ntmps30
  go_wp2_with fail
  generalize w.alloc (.cells #[.int .u64 s, .slice A M.length c] 33) = w1 at *
  have HBK : Hid (∀ W, Below w1.heap.size w1 W → W.cell? ⟨w.heap.size, 0, none⟩ = some (.int .u64 s) ∧ W.cell? ⟨w.heap.size, 1, none⟩ = some (.slice A M.length c)) := Lib.hid (fun W hW => ⟨(x1.below hW).cell 0, (x1.below hW).cell 1⟩)
  clear x1
  go_loopw [6, 8] (fun fv iv wr => ∃ (i : Nat) (A' : Option Addr) (c' : Nat) (F : List (List UInt8)), i ≤ l.length ∧ iv = .int .i64 (i : Int) ∧ fv = .slice A' F.length c' ∧ Hid (sortedS F) ∧ Hid (∀ q, q ∈ F ↔ (q ∈ (R.take i).map (·.1) ∧ verP T q < bestV R q)) ∧ F.length ≤ i ∧ wr.ownsRow w1.heap.size 9 1 (.slice A' F.length c') F.length (F.map stv) ∧ Below w1.heap.size w1 wr) (fun _ iv _ => l.length - (intOf iv).toNat)
  case atStart => exact ⟨0, none, 0, [], Nat.zero_le _, rfl, rfl, List.Pairwise.nil, by show ∀ q, _; simp, Nat.le_refl _, World.ownsRow_nil _ _ _ _, Below.refl _ _⟩
  case round =>
    obtain ⟨i, A', c', F, hi, rfl, rfl, hFs, hFm, hFl, hown, hb⟩ := hrel
    by_cases hlt : i < l.length
    · obtain ⟨b, off, hA, hbb, c0, c1, c2, c3, c4⟩ := (HR.out.below hb).at_ hlt
      have hxo := (HR.out.ok _ (List.getElem_mem hlt)).1
      have hsn : (R.take (i + 1)).map (·.1) = (R.take i).map (·.1) ++ [tl l[i].p] := by
        have : R.take (i + 1) = R.take i ++ [l[i].pv] := by rw [HRR.out, ← List.map_take, ← List.map_take, pv_snoc l i hlt]
        rw [this, List.map_append]
        rfl
      obtain ⟨x, hx⟩ : ∃ x, x = l[i] := ⟨_, rfl⟩
      rw [← hx] at c0 hxo hsn
      subst hA
      have HSN := Lib.hid hsn
      have hbr := hb
      have hbst : bestV (l.map RV.pv) (tl x.p) = bestV R (tl x.p) := by rw [HRR.out]
      clear c1 c2 c3 c4 hx hsn
      go_upto_region 6 with (fail)
      refine wp_region_p [(0, true), (1, true), (3, true), (4, true), (2, false), (5, false), (6, true), (7, true)] (fun W => Below wr.heap.size wr W) (by kernel_rfl) (by kernel_rfl) ?_
      simp only [List.map_cons, List.map_nil, List.filterMap_cons, List.filterMap_nil, List.getElem?_cons_zero, List.getElem?_cons_succ, List.length_cons, List.length_nil, Nat.zero_add, Nat.reduceAdd, List.drop_succ_cons, List.drop_zero]
      refine mx_move _ (by kernel_rfl) rfl ⟨_, (by ((try simp [go_sem]); (try rfl); done)), _, (by (simp only [Act.put, List.setIfInBounds_toArray, List.set_cons_zero, List.set_cons_succ]; rfl)), ?_⟩
      refine mx_move _ (by kernel_rfl) rfl ⟨_, (by ((try simp [go_sem]); (try rfl); done)), _, (by (simp only [Act.put, List.setIfInBounds_toArray, List.set_cons_zero, List.set_cons_succ]; rfl)), ?_⟩
      refine mx_val (by kernel_rfl) ⟨_, (by (intro w' hC; (have ⟨q0, q1⟩ := HBK.out _ (hb.trans (hC.mono hb.size))); clear hC; (try go_simp); (try with_reducible rfl); done)), _, (by (simp only [Act.put, List.setIfInBounds_toArray, List.set_cons_zero, List.set_cons_succ]; rfl)), ?_⟩
      refine mx_move _ (by kernel_rfl) rfl ⟨_, (by ((try simp [go_sem]); (try rfl); done)), _, (by (simp only [Act.put, List.setIfInBounds_toArray, List.set_cons_zero, List.set_cons_succ]; rfl)), ?_⟩
      refine mx_call ((Below.refl _ _).drew) (by kernel_rfl) ?_ (refBest_any _ d l x.p wr.drew (HR.out.below (hbr.trans ((Below.refl _ _).drew)))) ?_
      · (go_simp; done)
      rintro e wa ⟨rfl, hba⟩
      have hca : Below wr.heap.size wr wa := ((Below.refl _ _).drew).trans hba
      refine ⟨_, rfl, _, (by (simp only [Act.put, List.setIfInBounds_toArray, List.set_cons_zero, List.set_cons_succ]; rfl)), ?_⟩
      refine mx_call (hca) (by kernel_rfl) ?_ (refGet22_any A c M s x.p wa (HE.out.below (hb.trans (hca.mono hb.size)))) ?_
      · (go_simp; done)
      rintro e wb ⟨⟨o, rfl, ho⟩, hbb2⟩
      have hcb : Below wr.heap.size wr wb := hca.trans (hbb2.mono hca.size)
      have hfd := fun W => (show (Instr.field 28 (.agg #[.string o.p, .int .u64 o.v, .int .i64 o.k, .slice o.x.A o.x.l.length o.x.c]) 1).run Try.prog W = .ok (.int .u64 o.v) W by kernel_rfl)
      have hov : Hid (o.v = verP T (tl x.p)) := Lib.hid (by rw [ho.out, find_ver, HTT.out]; rfl)
      clear hba hbb2
      refine ⟨_, rfl, _, (by (simp only [Act.put, List.setIfInBounds_toArray, List.set_cons_zero, List.set_cons_succ]; rfl)), ?_⟩
      refine mx_val (by kernel_rfl) ⟨_, (by (intro w' hC; (have q := hfd w'); clear hC; (try go_simp); (try with_reducible rfl); done)), _, (by (simp only [Act.put, List.setIfInBounds_toArray, List.set_cons_zero, List.set_cons_succ]; rfl)), ?_⟩
      refine mx_val (by kernel_rfl) ⟨_, (by (intro w' hC; clear hC; (try go_simp); (try with_reducible rfl); done)), _, (by (simp only [Act.put, List.setIfInBounds_toArray, List.set_cons_zero, List.set_cons_succ]; rfl)), ?_⟩
      refine mx_end hcb ?_
      rw [hbst]
      have hw2 := hb.trans (hcb.mono hb.size)
      have ho2 := own_below hown hcb
      obtain ⟨bV, hbV⟩ : ∃ bV, bV = bestV R (tl x.p) := ⟨_, rfl⟩
      rw [← hbV]
      clear hown hca hcb hfd hbr hbst c0
      by_cases hle : bV ≤ o.v
      · have hd : decide (bV ≤ o.v) = true := decide_eq_true hle
        have HFM : Hid (∀ q, q ∈ F ↔ (q ∈ (R.take (i + 1)).map (·.1) ∧ verP T q < bestV R q)) := Lib.hid (fun q => by
          rw [hFm.out, HSN.out, List.mem_append, List.mem_singleton]
          constructor
          · rintro ⟨h1, h2⟩; exact ⟨.inl h1, h2⟩
          · rintro ⟨h1 | h1, h2⟩
            · exact ⟨h1, h2⟩
            · subst h1
              rw [← hbV, ← hov.out] at h2
              omega)
        clear hbV hov hFm
        go_wp2_with fail
        go_roundw
        case rel => exact ⟨i + 1, A', c', F, hlt, by go_num, rfl, hFs, HFM, by omega, ho2, hw2⟩
        case measure => simp [intOf]; omega
      · have hd : decide (bV ≤ o.v) = false := decide_eq_false hle
        have hgt : verP T (tl x.p) < bestV R (tl x.p) := by rw [← hbV, ← hov.out]; omega
        have HFM : Hid (∀ q, q ∈ insS (tl x.p) F ↔ (q ∈ (R.take (i + 1)).map (·.1) ∧ verP T q < bestV R q)) := Lib.hid (fun q => by
          rw [(ins_set hFs.out).2, hFm.out, HSN.out, List.mem_append, List.mem_singleton]
          constructor
          · rintro (h1 | ⟨h1, h2⟩)
            · subst h1; exact ⟨.inr rfl, hgt⟩
            · exact ⟨.inl h1, h2⟩
          · rintro ⟨h1 | h1, h2⟩
            · exact .inr ⟨h1, h2⟩
            · exact .inl h1)
        have HFS := Lib.hid (ins_set (p := tl x.p) hFs.out).1
        have HFL : Hid (∀ q ∈ F, q.length ≤ 1048576) := Lib.hid (fun q hq => by
          have h1 := ((hFm.out q).1 hq).1
          rw [HRR.out, ← List.map_take, List.map_map] at h1
          obtain ⟨y, hy, rfl⟩ := List.mem_map.1 h1
          have h2 := (HR.out.ok y (List.mem_of_mem_take hy)).1
          show (tl y.p).length ≤ _
          rw [tl_len]; exact h2)
        obtain ⟨A2, c2, he0, hF1, hF2, hF3, hF4, hF5⟩ := own_form ho2
        obtain ⟨rfl, rfl⟩ : A' = A2 ∧ c' = c2 := by injection he0 with e1 _ e3; exact ⟨e1, e3⟩
        have HO2 := Lib.hid ho2
        have hs2 := hw2.size
        have HF4 := Lib.hid hF4
        have HF5 := Lib.hid hF5
        rw [show maxLen = 9223372036854775807 from rfl] at hF2
        clear hbV hov hgt hFm hFs ho2 he0 hF3 hF4 hF5
        go_wp2_with fail
        go_loopw [10] (fun kv wr => ∃ k : Nat, k ≤ F.length ∧ kv = .int .i64 (k : Int) ∧ Hid (∀ q ∈ F.take k, cmpT q (tl x.p) < 0) ∧ Below wb.heap.size wb wr) (fun kv _ => F.length - (intOf kv).toNat)
        case atStart => exact ⟨0, Nat.zero_le _, rfl, by show ∀ q ∈ F.take 0, _; simp, Below.refl _ _⟩
        case round =>
          rename World => w3
          obtain ⟨k, hk, rfl, hkq, hb3⟩ := hrel
          have hw3 := hw2.trans (hb3.mono hs2)
          by_cases hkl : k < F.length
          · obtain ⟨b2, off2, hA2, hbb2, f0⟩ := txt_atE rfl (own_below HO2.out hb3) hkl
            obtain rfl : off2 = 0 := by
              have := HF5.out _ hA2
              simpa using this
            rw [Nat.zero_add] at f0
            have hql := HFL.out _ (List.getElem_mem hkl)
            have htk := List.take_succ_eq_append_getElem hkl
            have hgk := List.getElem?_eq_getElem hkl
            obtain ⟨q, hq⟩ : ∃ q, q = F[k] := ⟨_, rfl⟩
            rw [← hq] at f0 hql htk hgk
            simp only [stv] at f0
            have HCM := Lib.hid (refCompare_any ⟨⟨q⟩⟩ x.p hql hxo w3)
            rw [show tl ⟨⟨q⟩⟩ = q from rfl] at HCM
            obtain ⟨y, hy⟩ : ∃ y : ByteArray, y = ⟨⟨q⟩⟩ := ⟨_, rfl⟩
            rw [← hy] at f0 HCM
            have HY : Hid (tl y = q) := Lib.hid (by rw [hy])
            have HGK := Lib.hid hgk
            have HTK := Lib.hid htk
            obtain ⟨cm, hcm⟩ : ∃ cm, cm = cmpT q (tl x.p) := ⟨_, rfl⟩
            rw [← hcm] at HCM
            have HC := Lib.hid hcm
            have HQK := Lib.hid hq
            clear hgk htk hcm hq hy
            by_cases hc : cm < 0
            · have hcd : decide (cm < 0) = true := decide_eq_true hc
              have HN : Hid (∀ q ∈ F.take (k + 1), cmpT q (tl x.p) < 0) := Lib.hid (by
                rw [HTK.out]
                intro y hy
                rcases List.mem_append.1 hy with hy | hy
                · exact hkq.out y hy
                · rw [List.mem_singleton.1 hy, ← HC.out]; exact hc)
              subst hA2
              go_wp2_with fail
              refine HCM.out.mono ?_
              rintro e w4 ⟨rfl, hb4⟩
              go_wp2_with fail
              go_roundw
              case rel => exact ⟨k + 1, hkl, by go_num, HN.out, hb3.trans (hb4.mono hb3.size)⟩
              case measure => simp [intOf]; omega
            · have hcd : decide (cm < 0) = false := decide_eq_false hc
              have HAT : Hid (atS (tl x.p) F = k) := Lib.hid (atS_of hk hkq.out (fun h => by rw [← HQK.out, ← HC.out]; exact hc))
              by_cases he : y = x.p
              · have heq := eq_yes he
                have HSF : Hid (insS (tl x.p) F = F) := Lib.hid (by
                  unfold insS
                  rw [HAT.out, HGK.out, if_pos (by rw [← he, HY.out])])
                rw [HSF.out] at HFS HFM
                subst hA2
                clear he
                go_wp2_with fail
                refine HCM.out.mono ?_
                rintro e w4 ⟨rfl, hb4⟩
                have hw4 := hw3.trans (hb4.mono hw3.size)
                replace f0 := (hb4.cell hbb2).trans f0
                have ho4 := own_below (own_below HO2.out hb3) hb4
                go_wp2_with fail
                go_roundw
                case rel => exact ⟨i + 1, _, c', F, hlt, by go_num, rfl, HFS.out, HFM.out, by omega, ho4, hw4⟩
                case measure => simp [intOf]; omega
              · have heq := eq_no he
                have HI : Hid (F.take k ++ tl x.p :: F.drop k = insS (tl x.p) F) := Lib.hid (by
                  unfold insS
                  rw [HAT.out, HGK.out, if_neg (fun e => he (by injection e with e; apply tl_inj; rw [HY.out]; exact e))])
                have HIL : Hid ((insS (tl x.p) F).length ≤ i + 1) := Lib.hid (by
                  rw [← HI.out]; simp; omega)
                subst hA2
                clear he
                go_wp2_with fail
                refine HCM.out.mono ?_
                rintro e w4 ⟨rfl, hb4⟩
                have hw4 := hw3.trans (hb4.mono hw3.size)
                replace f0 := (hb4.cell hbb2).trans f0
                have HO4 := Lib.hid (own_below (own_below HO2.out hb3) hb4)
                clear HCM HTK HGK HC HQK
                have b3 : ¬ c' - k = 0 := by omega
                have b4 : ¬ c' = 0 := by omega
                have hck : ¬ c' = k := by omega
                have hO5 := Lib.hid (World.ownsRow_lit (base := w4.heap.size) (e := 9) (size := 1) w4 #[] 0 (Nat.le_refl _) (by simp [maxLen]) (by simp))
                have hz5 : w4.heap.size ≤ (w4.alloc (.cells #[] 9)).heap.size := by simp
                have hR5 : Hid (Rd (w4.alloc (.cells #[] 9)) (fun _ => True) 1 (some ⟨b2, 0, none⟩) k ((F.take k).map stv)) := Lib.hid (by
                  have := ((own_rd HO4.out).mono (fun _ _ _ => trivial)).take hk
                  rw [Nat.mul_one, ← List.map_take] at this
                  exact this.alloc _)
                obtain ⟨M1, hM1⟩ : ∃ M1, M1 = [] ++ F.take k := ⟨_, rfl⟩
                have hM1l : M1.length ≤ 1000000 := by rw [hM1]; simp <;> omega
                obtain ⟨M2, hM2⟩ : ∃ M2, M2 = M1 ++ [tl x.p] := ⟨_, rfl⟩
                have hM2l : M2.length ≤ 1000001 := by rw [hM2]; simp <;> omega
                obtain ⟨M3, hM3⟩ : ∃ M3, M3 = M2 ++ F.drop k := ⟨_, rfl⟩
                have HM3 := Lib.hid hM3
                have HI3 : Hid (M3 = insS (tl x.p) F) := Lib.hid (by rw [hM3, hM2, hM1, ← HI.out]; simp)
                have HM1 := Lib.hid hM1
                have HM2 := Lib.hid hM2
                have HDR := Lib.hid (fun w8 (hb8 : Below w4.heap.size w4 w8) => ((own_rd (own_below HO4.out hb8)).mono (Z' := fun _ => True) (fun _ _ _ => trivial)).drop (k := k) (cap := c') hk hF1)
                rw [Nat.mul_one, ← List.map_drop] at HDR
                rw [if_neg hck, Option.map_some, add_none, Nat.zero_add] at HDR
                clear hM1 hM2 hM3 HI
                go_wp2_with (at_builtin; first
                  | (refine wpList_append_sts rfl (.tmp 59) (.tmp 62) (t := 63) rfl rfl (L := []) (M := F.take k) (by first | rfl | (simp; done)) (by first | rfl | (simp; done)) hO5.out (by first | rfl | (simp; done)) hR5.out (by first | omega | (simp; done) | (simp; omega)) hz5 ?_; intro A6 c6 w6 ho6 hb6 _ _; rw [← HM1.out] at ho6 ⊢; have hb6' : Below w4.heap.size w4 w6 := ((Below.refl _ w4).alloc (Nat.le_refl _) _).trans hb6; have hb7 : Below w4.heap.size w4 (w6.alloc (.cells #[.string x.p] 9)) := hb6'.alloc hb6'.size _; have HO7 := Lib.hid (World.ownsRow.alloc ho6 (.cells #[.string x.p] 9)); have HR7 : Hid (Rd (w6.alloc (.cells #[.string x.p] 9)) (fun _ => True) 1 (some ⟨w6.heap.size, 0, none⟩) 1 (([tl x.p] : List (List UInt8)).map stv)) := (Rd.lit (w := w6) (t := 9) (size := 1) (n := 1) (xs := [.string x.p]) (b := w6.heap.size) rfl rfl (by simp)).mono (fun _ _ _ => trivial); clear hO5 hR5 ho6 hb6 hb6')
                  | (refine wpList_append_sts rfl (.tmp 64) (.tmp 66) (t := 63) rfl rfl (L := M1) (M := [tl x.p]) (by first | rfl | (simp; done)) (by first | rfl | (simp; done)) HO7.out (by first | rfl | (simp; done)) HR7.out (by first | omega | (simp; done) | (simp; omega)) hb7.size ?_; intro A8 c8 w8 ho8 hb8 _ _; rw [← HM2.out] at ho8 ⊢; have hb8 : Below w4.heap.size w4 w8 := hb7.trans hb8; have HO8 := Lib.hid ho8; have HR8 := Lib.hid (HDR.out _ hb8); clear HO7 HR7 ho8 hb7 HDR)
                  | (refine wpList_append_sts rfl (.tmp 68) (.tmp 71) (t := 63) rfl rfl (L := M2) (M := F.drop k) (by first | rfl | (simp; done)) (by first | rfl | (simp; done)) HO8.out (by first | rfl | (simp; done)) HR8.out (by first | omega | (simp; done) | (simp; omega)) hb8.size ?_; intro A9 c9 w9 ho9 hb9 _ _; rw [← HM3.out] at ho9 ⊢; clear HO8 HR8))
                have hb9 : Below w4.heap.size w4 w9 := hb8.trans hb9
                have HO9 := Lib.hid ho9
                rw [HI3.out] at HO9 ⊢
                clear ho9 hb8
                go_wp2_with fail
                go_roundw
                case rel => exact ⟨i + 1, A9, c9, insS (tl x.p) F, hlt, by go_num, rfl, HFS.out, HFM.out, HIL.out, own_base HO9.out (fun g hg => Nat.le_trans hw4.size (HO9.out.lt _ hg).1), hw4.trans (hb9.mono hw4.size)⟩
                case measure => simp [intOf]; omega
          · have hke : Hid (k = F.length) := Lib.hid (by omega)
            have HAT : Hid (atS (tl x.p) F = k) := Lib.hid (atS_of hk hkq.out (fun h => absurd h hkl))
            have HGK : Hid (F[k]? = none) := Lib.hid (by rw [hke.out]; simp)
            have HI : Hid (F.take k ++ tl x.p :: F.drop k = insS (tl x.p) F) := Lib.hid (by
              unfold insS
              rw [HAT.out, HGK.out, if_neg (by simp)])
            have HIL : Hid ((insS (tl x.p) F).length ≤ i + 1) := Lib.hid (by
              rw [← HI.out]; simp; omega)
            have hkd : decide (k < F.length) = false := decide_eq_false hkl
            have HO4 := Lib.hid (own_below HO2.out hb3)
            clear HGK
            by_cases hF0 : F.length = 0
            · obtain rfl : F = [] := List.eq_nil_of_length_eq_zero hF0
              obtain rfl : k = 0 := by simp at hk; exact hk
              clear hF0
              rcases A' with _ | ⟨g, ao, ap⟩
              · obtain ⟨_, rfl⟩ := HF4.out rfl
                have hO5 := Lib.hid (World.ownsRow_lit (base := w3.heap.size) (e := 9) (size := 1) w3 #[] 0 (Nat.le_refl _) (by simp [maxLen]) (by simp))
                have hz5 : w3.heap.size ≤ (w3.alloc (.cells #[] 9)).heap.size := by simp
                obtain ⟨M2, hM2⟩ : ∃ M2, M2 = [] ++ [tl x.p] := ⟨_, rfl⟩
                have hM2l : M2.length ≤ 1000001 := by rw [hM2]; simp
                obtain ⟨M3, hM3⟩ : ∃ M3, M3 = M2 ++ ([] : List (List UInt8)) := ⟨_, rfl⟩
                have HM2 := Lib.hid hM2
                have HM3 := Lib.hid hM3
                have HI3 : Hid (M3 = insS (tl x.p) ([] : List (List UInt8))) := Lib.hid (by rw [hM3, hM2, ← HI.out]; simp)
                have HO7 := Lib.hid (World.ownsRow.alloc hO5.out (.cells #[.string x.p] 9))
                have HR7 : Hid (Rd ((w3.alloc (.cells #[] 9)).alloc (.cells #[.string x.p] 9)) (fun _ => True) 1 (some ⟨w3.heap.size + 1, 0, none⟩) 1 (([tl x.p] : List (List UInt8)).map stv)) := (Rd.lit (w := (w3.alloc (.cells #[] 9))) (t := 9) (size := 1) (n := 1) (xs := [.string x.p]) (b := w3.heap.size + 1) rfl rfl (by simp)).mono (fun _ _ _ => trivial)
                have hb7 : Below w3.heap.size w3 ((w3.alloc (.cells #[] 9)).alloc (.cells #[.string x.p] 9)) := ((Below.refl _ w3).alloc (Nat.le_refl _) _).alloc (by simp) _
                clear hM2 hM3 HI
                go_wp2_with (at_builtin; first
                  | (refine wpList_append_sts rfl (.tmp 64) (.tmp 66) (t := 63) rfl rfl (L := []) (M := [tl x.p]) (by first | rfl | (simp; done)) (by first | rfl | (simp; done)) HO7.out (by first | rfl | (simp; done)) HR7.out (by first | omega | (simp; done) | (simp; omega)) hb7.size ?_; intro A8 c8 w8 ho8 hb8 _ _; rw [← HM2.out] at ho8 ⊢; have hb8 : Below w3.heap.size w3 w8 := hb7.trans hb8; have HO8 := Lib.hid ho8; clear HO7 HR7 ho8 hb7)
                  | (refine wpList_append_sts rfl (.tmp 68) (.tmp 71) (t := 63) rfl rfl (L := M2) (M := ([] : List (List UInt8))) (by first | rfl | (simp; done)) (by first | rfl | (simp; done)) HO8.out (by first | rfl | (simp; done)) (Rd.nil : Rd _ (fun _ => True) 1 _ 0 []) (by first | omega | (simp; done) | (simp; omega)) hb8.size ?_; intro A9 c9 w9 ho9 hb9 _ _; rw [← HM3.out] at ho9 ⊢; clear HO8))
                have hb9 : Below w3.heap.size w3 w9 := hb8.trans hb9
                have HO9 := Lib.hid ho9
                rw [HI3.out] at HO9 ⊢
                clear ho9 hb8
                go_wp2_with fail
                go_roundw
                case rel => exact ⟨i + 1, A9, c9, insS (tl x.p) ([] : List (List UInt8)), hlt, by go_num, rfl, HFS.out, HFM.out, HIL.out, own_base HO9.out (fun g hg => Nat.le_trans hw3.size (HO9.out.lt _ hg).1), hw3.trans (hb9.mono hw3.size)⟩
                case measure => simp [intOf]; omega
              · obtain ⟨rfl, rfl⟩ : ao = 0 ∧ ap = none := by
                  have := HF5.out _ rfl
                  simpa using this
                have hO5 := Lib.hid (World.ownsRow_lit (base := w3.heap.size) (e := 9) (size := 1) w3 #[] 0 (Nat.le_refl _) (by simp [maxLen]) (by simp))
                have hz5 : w3.heap.size ≤ (w3.alloc (.cells #[] 9)).heap.size := by simp
                obtain ⟨M2, hM2⟩ : ∃ M2, M2 = [] ++ [tl x.p] := ⟨_, rfl⟩
                have hM2l : M2.length ≤ 1000001 := by rw [hM2]; simp
                obtain ⟨M3, hM3⟩ : ∃ M3, M3 = M2 ++ ([] : List (List UInt8)) := ⟨_, rfl⟩
                have HM2 := Lib.hid hM2
                have HM3 := Lib.hid hM3
                have HI3 : Hid (M3 = insS (tl x.p) ([] : List (List UInt8))) := Lib.hid (by rw [hM3, hM2, ← HI.out]; simp)
                have HO7 := Lib.hid (World.ownsRow.alloc hO5.out (.cells #[.string x.p] 9))
                have HR7 : Hid (Rd ((w3.alloc (.cells #[] 9)).alloc (.cells #[.string x.p] 9)) (fun _ => True) 1 (some ⟨w3.heap.size + 1, 0, none⟩) 1 (([tl x.p] : List (List UInt8)).map stv)) := (Rd.lit (w := (w3.alloc (.cells #[] 9))) (t := 9) (size := 1) (n := 1) (xs := [.string x.p]) (b := w3.heap.size + 1) rfl rfl (by simp)).mono (fun _ _ _ => trivial)
                have hb7 : Below w3.heap.size w3 ((w3.alloc (.cells #[] 9)).alloc (.cells #[.string x.p] 9)) := ((Below.refl _ w3).alloc (Nat.le_refl _) _).alloc (by simp) _
                clear hM2 hM3 HI
                go_wp2_with (at_builtin; first
                  | (refine wpList_append_sts rfl (.tmp 64) (.tmp 66) (t := 63) rfl rfl (L := []) (M := [tl x.p]) (by first | rfl | (simp; done)) (by first | rfl | (simp; done)) HO7.out (by first | rfl | (simp; done)) HR7.out (by first | omega | (simp; done) | (simp; omega)) hb7.size ?_; intro A8 c8 w8 ho8 hb8 _ _; rw [← HM2.out] at ho8 ⊢; have hb8 : Below w3.heap.size w3 w8 := hb7.trans hb8; have HO8 := Lib.hid ho8; clear HO7 HR7 ho8 hb7)
                  | (refine wpList_append_sts rfl (.tmp 68) (.tmp 71) (t := 63) rfl rfl (L := M2) (M := ([] : List (List UInt8))) (by first | rfl | (simp; done)) (by first | rfl | (simp; done)) HO8.out (by first | rfl | (simp; done)) (Rd.nil : Rd _ (fun _ => True) 1 _ 0 []) (by first | omega | (simp; done) | (simp; omega)) hb8.size ?_; intro A9 c9 w9 ho9 hb9 _ _; rw [← HM3.out] at ho9 ⊢; clear HO8))
                have hb9 : Below w3.heap.size w3 w9 := hb8.trans hb9
                have HO9 := Lib.hid ho9
                rw [HI3.out] at HO9 ⊢
                clear ho9 hb8
                go_wp2_with fail
                go_roundw
                case rel => exact ⟨i + 1, A9, c9, insS (tl x.p) ([] : List (List UInt8)), hlt, by go_num, rfl, HFS.out, HFM.out, HIL.out, own_base HO9.out (fun g hg => Nat.le_trans hw3.size (HO9.out.lt _ hg).1), hw3.trans (hb9.mono hw3.size)⟩
                case measure => simp [intOf]; omega
            · rcases A' with _ | ⟨g, ao, ap⟩
              · exact absurd (HF4.out rfl).1 hF0
              obtain ⟨rfl, rfl⟩ : ao = 0 ∧ ap = none := by
                have := HF5.out _ rfl
                simpa using this
              have b5 : ¬ k = 0 := by have := hke.out; omega
              have b4 : ¬ c' = 0 := by omega
              by_cases hck : c' = k
              · have b3 : c' - k = 0 := by omega
                have HCK := Lib.hid hck
                clear hck
                have hO5 := Lib.hid (World.ownsRow_lit (base := w3.heap.size) (e := 9) (size := 1) w3 #[] 0 (Nat.le_refl _) (by simp [maxLen]) (by simp))
                have hz5 : w3.heap.size ≤ (w3.alloc (.cells #[] 9)).heap.size := by simp
                have hR5 : Hid (Rd (w3.alloc (.cells #[] 9)) (fun _ => True) 1 (some ⟨g, 0, none⟩) k ((F.take k).map stv)) := Lib.hid (by
                  have := ((own_rd HO4.out).mono (fun _ _ _ => trivial)).take hk
                  rw [Nat.mul_one, ← List.map_take] at this
                  exact this.alloc _)
                obtain ⟨M1, hM1⟩ : ∃ M1, M1 = [] ++ F.take k := ⟨_, rfl⟩
                have hM1l : M1.length ≤ 1000000 := by rw [hM1]; simp <;> omega
                obtain ⟨M2, hM2⟩ : ∃ M2, M2 = M1 ++ [tl x.p] := ⟨_, rfl⟩
                have hM2l : M2.length ≤ 1000001 := by rw [hM2]; simp <;> omega
                obtain ⟨M3, hM3⟩ : ∃ M3, M3 = M2 ++ F.drop k := ⟨_, rfl⟩
                have HM3 := Lib.hid hM3
                have HI3 : Hid (M3 = insS (tl x.p) F) := Lib.hid (by rw [hM3, hM2, hM1, ← HI.out]; simp)
                have HM1 := Lib.hid hM1
                have HM2 := Lib.hid hM2
                have HDR := Lib.hid (fun w8 (hb8 : Below w3.heap.size w3 w8) => ((own_rd (own_below HO4.out hb8)).mono (Z' := fun _ => True) (fun _ _ _ => trivial)).drop (k := k) (cap := c') hk hF1)
                rw [Nat.mul_one, ← List.map_drop] at HDR
                rw [if_pos HCK.out] at HDR
                clear hM1 hM2 hM3 HI
                go_wp2_with (at_builtin; first
                  | (refine wpList_append_sts rfl (.tmp 59) (.tmp 62) (t := 63) rfl rfl (L := []) (M := F.take k) (by first | rfl | (simp; done)) (by first | rfl | (simp; done)) hO5.out (by first | rfl | (simp; done)) hR5.out (by first | omega | (simp; done) | (simp; omega)) hz5 ?_; intro A6 c6 w6 ho6 hb6 _ _; rw [← HM1.out] at ho6 ⊢; have hb6' : Below w3.heap.size w3 w6 := ((Below.refl _ w3).alloc (Nat.le_refl _) _).trans hb6; have hb7 : Below w3.heap.size w3 (w6.alloc (.cells #[.string x.p] 9)) := hb6'.alloc hb6'.size _; have HO7 := Lib.hid (World.ownsRow.alloc ho6 (.cells #[.string x.p] 9)); have HR7 : Hid (Rd (w6.alloc (.cells #[.string x.p] 9)) (fun _ => True) 1 (some ⟨w6.heap.size, 0, none⟩) 1 (([tl x.p] : List (List UInt8)).map stv)) := (Rd.lit (w := w6) (t := 9) (size := 1) (n := 1) (xs := [.string x.p]) (b := w6.heap.size) rfl rfl (by simp)).mono (fun _ _ _ => trivial); clear hO5 hR5 ho6 hb6 hb6')
                  | (refine wpList_append_sts rfl (.tmp 64) (.tmp 66) (t := 63) rfl rfl (L := M1) (M := [tl x.p]) (by first | rfl | (simp; done)) (by first | rfl | (simp; done)) HO7.out (by first | rfl | (simp; done)) HR7.out (by first | omega | (simp; done) | (simp; omega)) hb7.size ?_; intro A8 c8 w8 ho8 hb8 _ _; rw [← HM2.out] at ho8 ⊢; have hb8 : Below w3.heap.size w3 w8 := hb7.trans hb8; have HO8 := Lib.hid ho8; have HR8 := Lib.hid (HDR.out _ hb8); clear HO7 HR7 ho8 hb7 HDR)
                  | (refine wpList_append_sts rfl (.tmp 68) (.tmp 71) (t := 63) rfl rfl (L := M2) (M := F.drop k) (by first | rfl | (simp; done)) (by first | rfl | (simp; done)) HO8.out (by first | rfl | (simp; done)) HR8.out (by first | omega | (simp; done) | (simp; omega)) hb8.size ?_; intro A9 c9 w9 ho9 hb9 _ _; rw [← HM3.out] at ho9 ⊢; clear HO8 HR8))
                have hb9 : Below w3.heap.size w3 w9 := hb8.trans hb9
                have HO9 := Lib.hid ho9
                rw [HI3.out] at HO9 ⊢
                clear ho9 hb8
                go_wp2_with fail
                go_roundw
                case rel => exact ⟨i + 1, A9, c9, insS (tl x.p) F, hlt, by go_num, rfl, HFS.out, HFM.out, HIL.out, own_base HO9.out (fun g hg => Nat.le_trans hw3.size (HO9.out.lt _ hg).1), hw3.trans (hb9.mono hw3.size)⟩
                case measure => simp [intOf]; omega
              · have b3 : ¬ c' - k = 0 := by omega
                have hO5 := Lib.hid (World.ownsRow_lit (base := w3.heap.size) (e := 9) (size := 1) w3 #[] 0 (Nat.le_refl _) (by simp [maxLen]) (by simp))
                have hz5 : w3.heap.size ≤ (w3.alloc (.cells #[] 9)).heap.size := by simp
                have hR5 : Hid (Rd (w3.alloc (.cells #[] 9)) (fun _ => True) 1 (some ⟨g, 0, none⟩) k ((F.take k).map stv)) := Lib.hid (by
                  have := ((own_rd HO4.out).mono (fun _ _ _ => trivial)).take hk
                  rw [Nat.mul_one, ← List.map_take] at this
                  exact this.alloc _)
                obtain ⟨M1, hM1⟩ : ∃ M1, M1 = [] ++ F.take k := ⟨_, rfl⟩
                have hM1l : M1.length ≤ 1000000 := by rw [hM1]; simp <;> omega
                obtain ⟨M2, hM2⟩ : ∃ M2, M2 = M1 ++ [tl x.p] := ⟨_, rfl⟩
                have hM2l : M2.length ≤ 1000001 := by rw [hM2]; simp <;> omega
                obtain ⟨M3, hM3⟩ : ∃ M3, M3 = M2 ++ F.drop k := ⟨_, rfl⟩
                have HM3 := Lib.hid hM3
                have HI3 : Hid (M3 = insS (tl x.p) F) := Lib.hid (by rw [hM3, hM2, hM1, ← HI.out]; simp)
                have HM1 := Lib.hid hM1
                have HM2 := Lib.hid hM2
                have HDR := Lib.hid (fun w8 (hb8 : Below w3.heap.size w3 w8) => ((own_rd (own_below HO4.out hb8)).mono (Z' := fun _ => True) (fun _ _ _ => trivial)).drop (k := k) (cap := c') hk hF1)
                rw [Nat.mul_one, ← List.map_drop] at HDR
                rw [if_neg hck, Option.map_some, add_none, Nat.zero_add] at HDR
                clear hM1 hM2 hM3 HI
                go_wp2_with (at_builtin; first
                  | (refine wpList_append_sts rfl (.tmp 59) (.tmp 62) (t := 63) rfl rfl (L := []) (M := F.take k) (by first | rfl | (simp; done)) (by first | rfl | (simp; done)) hO5.out (by first | rfl | (simp; done)) hR5.out (by first | omega | (simp; done) | (simp; omega)) hz5 ?_; intro A6 c6 w6 ho6 hb6 _ _; rw [← HM1.out] at ho6 ⊢; have hb6' : Below w3.heap.size w3 w6 := ((Below.refl _ w3).alloc (Nat.le_refl _) _).trans hb6; have hb7 : Below w3.heap.size w3 (w6.alloc (.cells #[.string x.p] 9)) := hb6'.alloc hb6'.size _; have HO7 := Lib.hid (World.ownsRow.alloc ho6 (.cells #[.string x.p] 9)); have HR7 : Hid (Rd (w6.alloc (.cells #[.string x.p] 9)) (fun _ => True) 1 (some ⟨w6.heap.size, 0, none⟩) 1 (([tl x.p] : List (List UInt8)).map stv)) := (Rd.lit (w := w6) (t := 9) (size := 1) (n := 1) (xs := [.string x.p]) (b := w6.heap.size) rfl rfl (by simp)).mono (fun _ _ _ => trivial); clear hO5 hR5 ho6 hb6 hb6')
                  | (refine wpList_append_sts rfl (.tmp 64) (.tmp 66) (t := 63) rfl rfl (L := M1) (M := [tl x.p]) (by first | rfl | (simp; done)) (by first | rfl | (simp; done)) HO7.out (by first | rfl | (simp; done)) HR7.out (by first | omega | (simp; done) | (simp; omega)) hb7.size ?_; intro A8 c8 w8 ho8 hb8 _ _; rw [← HM2.out] at ho8 ⊢; have hb8 : Below w3.heap.size w3 w8 := hb7.trans hb8; have HO8 := Lib.hid ho8; have HR8 := Lib.hid (HDR.out _ hb8); clear HO7 HR7 ho8 hb7 HDR)
                  | (refine wpList_append_sts rfl (.tmp 68) (.tmp 71) (t := 63) rfl rfl (L := M2) (M := F.drop k) (by first | rfl | (simp; done)) (by first | rfl | (simp; done)) HO8.out (by first | rfl | (simp; done)) HR8.out (by first | omega | (simp; done) | (simp; omega)) hb8.size ?_; intro A9 c9 w9 ho9 hb9 _ _; rw [← HM3.out] at ho9 ⊢; clear HO8 HR8))
                have hb9 : Below w3.heap.size w3 w9 := hb8.trans hb9
                have HO9 := Lib.hid ho9
                rw [HI3.out] at HO9 ⊢
                clear ho9 hb8
                go_wp2_with fail
                go_roundw
                case rel => exact ⟨i + 1, A9, c9, insS (tl x.p) F, hlt, by go_num, rfl, HFS.out, HFM.out, HIL.out, own_base HO9.out (fun g hg => Nat.le_trans hw3.size (HO9.out.lt _ hg).1), hw3.trans (hb9.mono hw3.size)⟩
                case measure => simp [intOf]; omega
    · have e : i = l.length := by omega
      subst e
      have HF : Hid (F = fetchS T R) := Lib.hid (by
        have hlen : R.take l.length = R := by
          have : R.length = l.length := by rw [HRR.out]; simp
          rw [← this, List.take_length]
        refine sorted_eq hFs.out ((sortedS_keys (theirs_sort R)).filter _) fun q => ?_
        rw [hFm.out, hlen]
        unfold fetchS
        rw [List.mem_filter, theirs_mem]
        simp)
      obtain ⟨w5, hw5⟩ : ∃ w5, w5 = wr := ⟨_, rfl⟩
      rw [← hw5] at hown hb
      have HO5 := Lib.hid hown
      have hs5 := hb.size
      have hb5 := hb
      subst hw5
      clear hFm hFs hown
      go_wp2_with fail
      go_loopw [7, 12] (fun gv iv wr => ∃ (i : Nat) (A9 : Option Addr) (c9 : Nat) (g : List (List UInt8)), i ≤ M.length ∧ iv = .int .i64 (i : Int) ∧ gv = .slice A9 g.length c9 ∧ Hid (g = ((keysR T).take i).filter fun p => decide (bestV R p < verP T p)) ∧ g.length ≤ i ∧ wr.ownsRow w5.heap.size 9 1 (.slice A9 g.length c9) g.length (g.map stv) ∧ Below w5.heap.size w5 wr) (fun _ iv _ => M.length - (intOf iv).toNat)
      case atStart => exact ⟨0, none, 0, [], Nat.zero_le _, rfl, rfl, rfl, Nat.le_refl _, World.ownsRow_nil _ _ _ _, Below.refl _ _⟩
      case round =>
        rename World => w6
        clear hb
        obtain ⟨i, A9, c9, g, hi, rfl, rfl, hg, hgi, hog, hb9⟩ := hrel
        have hb := hb5.trans (hb9.mono hs5)
        have hkl : (keysR T).length = M.length := by rw [keys_len, hTl]
        by_cases hlt : i < M.length
        · obtain ⟨b1, off1, hA1, hbb1, c0, c1, c2, c3⟩ := HE.out.at_ hlt
          have hlk : i < (keysR T).length := by omega
          have hkx : (keysR T)[i] = tl M[i].p := by
            have : keysR T = M.map fun y => tl y.p := by rw [← HTT.out]; simp [keysR, Function.comp_def, EV.pl]
            simp [this]
          have hvx : verP T (tl M[i].p) = M[i].v := by
            have h1 : (tl M[i].p, M[i].ep) ∈ T := by rw [← HTT.out]; exact List.mem_map.2 ⟨M[i], List.getElem_mem hlt, rfl⟩
            unfold verP
            rw [HSR.out.get h1]
            rfl
          have hfs := filt_snoc ((keysR T).take i) (keysR T)[i] (fun p => decide (bestV R p < verP T p))
          rw [← List.take_succ_eq_append_getElem hlk, ← hg.out, hkx] at hfs
          obtain ⟨x, hx⟩ : ∃ x, x = M[i] := ⟨_, rfl⟩
          rw [← hx] at c0 c1 hfs hvx
          rw [hvx] at hfs
          have HX : Hid (∀ W, Below w1.heap.size w1 W → W.cell? ⟨b1, off1 + i * 4, none⟩ = some (.string x.p) ∧ W.cell? ⟨b1, off1 + i * 4 + 1, none⟩ = some (.int .u64 x.v)) := Lib.hid (fun W hW => by rw [hW.cell hbb1, hW.cell hbb1]; exact ⟨c0, c1⟩)
          have HBE := Lib.hid (fun W (hW : Below w1.heap.size w1 W) => refBest_any B d l x.p W (HR.out.below hW))
          rw [← HRR.out] at HBE
          obtain ⟨bV, hbV⟩ : ∃ bV, bV = bestV R (tl x.p) := ⟨_, rfl⟩
          rw [← hbV] at HBE hfs
          have HFS := Lib.hid hfs
          subst hA1
          clear c0 c1 c2 c3 hkx hvx hfs hbV hx hg hlk
          obtain ⟨q0, q1⟩ := HBK.out w6 hb
          go_upto_region 17 with (fail)
          clear q0 q1
          refine wp_region_b 15 (by kernel_rfl) (by kernel_rfl) ?_
          simp only [List.take_succ_cons, List.take_zero, List.drop_succ_cons, List.drop_zero]
          refine lb_move _ (by kernel_rfl) rfl ⟨_, (by ((try simp [go_sem]); (try rfl); done)), _, (by (simp only [Act.put, List.setIfInBounds_toArray, List.set_cons_zero, List.set_cons_succ]; rfl)), ?_⟩
          refine lb_val (by kernel_rfl) ⟨_, (by (intro w' hC; clear hC; (try go_simp); (try with_reducible rfl); done)), _, (by (simp only [Act.put, List.setIfInBounds_toArray, List.set_cons_zero, List.set_cons_succ]; rfl)), ?_⟩
          refine lb_val (by kernel_rfl) ⟨_, (by (intro w' hC; (have ⟨q0, q1⟩ := HBK.out _ (hb.trans (hC.mono hb.size))); clear hC; (try go_simp); (try with_reducible rfl); done)), _, (by (simp only [Act.put, List.setIfInBounds_toArray, List.set_cons_zero, List.set_cons_succ]; rfl)), ?_⟩
          refine lb_move _ (by kernel_rfl) rfl ⟨_, (by ((try simp [go_sem]); (try rfl); done)), _, (by (simp only [Act.put, List.setIfInBounds_toArray, List.set_cons_zero, List.set_cons_succ]; rfl)), ?_⟩
          refine lb_val (by kernel_rfl) ⟨_, (by (intro w' hC; clear hC; (try go_simp); (try with_reducible rfl); done)), _, (by (simp only [Act.put, List.setIfInBounds_toArray, List.set_cons_zero, List.set_cons_succ]; rfl)), ?_⟩
          refine lb_val (by kernel_rfl) ⟨_, (by (intro w' hC; clear hC; (try go_simp); (try with_reducible rfl); done)), _, (by (simp only [Act.put, List.setIfInBounds_toArray, List.set_cons_zero, List.set_cons_succ]; rfl)), ?_⟩
          refine lb_val (by kernel_rfl) ⟨_, (by (intro w' hC; (have ⟨c0, c1⟩ := HX.out w' (hb.trans (hC.mono hb.size))); clear hC; (try go_simp); (try with_reducible rfl); done)), _, (by (simp only [Act.put, List.setIfInBounds_toArray, List.set_cons_zero, List.set_cons_succ]; rfl)), ?_⟩
          refine lb_call (by kernel_rfl) (fun w' hC => HBE.out w' (hb.trans (hC.mono hb.size))) (by (intro w'; go_simp; done)) ⟨_, (by (simp only [Act.put, List.setIfInBounds_toArray, List.set_cons_zero, List.set_cons_succ]; rfl)), ?_⟩
          refine lb_val (by kernel_rfl) ⟨_, (by (intro w' hC; clear hC; (try go_simp); (try with_reducible rfl); done)), _, (by (simp only [Act.put, List.setIfInBounds_toArray, List.set_cons_zero, List.set_cons_succ]; rfl)), ?_⟩
          refine lb_val (by kernel_rfl) ⟨_, (by (intro w' hC; (have ⟨q0, q1⟩ := HBK.out _ (hb.trans (hC.mono hb.size))); clear hC; (try go_simp); (try with_reducible rfl); done)), _, (by (simp only [Act.put, List.setIfInBounds_toArray, List.set_cons_zero, List.set_cons_succ]; rfl)), ?_⟩
          refine lb_move _ (by kernel_rfl) rfl ⟨_, (by ((try simp [go_sem]); (try rfl); done)), _, (by (simp only [Act.put, List.setIfInBounds_toArray, List.set_cons_zero, List.set_cons_succ]; rfl)), ?_⟩
          refine lb_val (by kernel_rfl) ⟨_, (by (intro w' hC; clear hC; (try go_simp); (try with_reducible rfl); done)), _, (by (simp only [Act.put, List.setIfInBounds_toArray, List.set_cons_zero, List.set_cons_succ]; rfl)), ?_⟩
          refine lb_val (by kernel_rfl) ⟨_, (by (intro w' hC; clear hC; (try go_simp); (try with_reducible rfl); done)), _, (by (simp only [Act.put, List.setIfInBounds_toArray, List.set_cons_zero, List.set_cons_succ]; rfl)), ?_⟩
          refine lb_val (by kernel_rfl) ⟨_, (by (intro w' hC; (have ⟨c0, c1⟩ := HX.out w' (hb.trans (hC.mono hb.size))); clear hC; (try go_simp); (try with_reducible rfl); done)), _, (by (simp only [Act.put, List.setIfInBounds_toArray, List.set_cons_zero, List.set_cons_succ]; rfl)), ?_⟩
          refine lb_val (by kernel_rfl) ⟨_, (by (intro w' hC; clear hC; (try go_simp); (try with_reducible rfl); done)), _, (by (simp only [Act.put, List.setIfInBounds_toArray, List.set_cons_zero, List.set_cons_succ]; rfl)), ?_⟩
          refine .nil ?_
          intro w7 hb7
          have hw7 := hb.trans (hb7.mono hb.size)
          have hw57 := hb9.trans (hb7.mono hb9.size)
          have hog7 := own_below hog hb7
          obtain ⟨q0, q1⟩ := HBK.out w7 hw7
          obtain ⟨e0, e1⟩ := HX.out w7 hw7
          clear hog hb7 HBE
          by_cases hlu : bV < x.v
          · have hd : decide (bV < x.v) = true := decide_eq_true hlu
            have hfs := HFS.out
            rw [if_pos hd] at hfs
            have HFS2 := Lib.hid hfs
            have HO := Lib.hid (World.ownsRow.alloc hog7 (.cells #[.string x.p] 9))
            have hra : Hid (Rd (w7.alloc (.cells #[.string x.p] 9)) (fun _ => True) 1 (some ⟨w7.heap.size, 0, none⟩) 1 [stv (tl x.p)]) := (Rd.lit (w := w7) (t := 9) (size := 1) (n := 1) (xs := [.string x.p]) rfl rfl rfl).mono (fun _ _ _ => trivial)
            have hlb := hog7.lt
            have hs7 := hw57.size
            clear hfs hog7 HFS
            go_wp2_with (at_builtin; refine wpList_append_one rfl (.tmp 95) (.tmp 102) (t := 63) rfl rfl rfl HO.out rfl hra.out (by omega) (by simp; omega) ?_; intro A3 c3 w3 hown3 hg3)
            have hb3 : Below w5.heap.size w5 w3 := (hw57.alloc hs7 _).trans (grown_below hg3 (by simp; omega) (fun g hg => by have := (hlb _ hg).1; omega))
            go_roundw
            case rel => exact ⟨i + 1, A3, c3, g ++ [tl x.p], hlt, by go_num, by simp, HFS2.out.symm, by simp; omega, hown3, hb3⟩
            case measure => simp [intOf]; omega
          · have hd : decide (bV < x.v) = false := decide_eq_false hlu
            have hfs := HFS.out
            rw [if_neg (by rw [hd]; simp)] at hfs
            have HFS2 := Lib.hid hfs
            clear hfs HFS
            go_wp2_with fail
            go_roundw
            case rel => exact ⟨i + 1, A9, c9, g, hlt, by go_num, rfl, HFS2.out.symm, by omega, hog7, hw57⟩
            case measure => simp [intOf]; omega
        · have e : i = M.length := by omega
          subst e
          have HG3 : Hid (g = (keysR T).filter fun p => decide (bestV R p < verP T p)) := Lib.hid (by rw [hg.out, ← hkl, List.take_length])
          have hs89 := hb9.size
          obtain ⟨q0, q1⟩ := HBK.out w6 hb
          clear hg
          go_wp2_with fail
          refine bodyPost_ret (v := .tuple #[.slice A' F.length c', .slice A9 g.length c9]) (by simp [results, Try.results30, go_sem]) rfl ?_
          have hs1 := hw1.size
          exact ⟨⟨A', A9, c', c9, F, g, rfl, HF.out, HG3.out, own_base (own_below HO5.out hb9) (fun g hg => Nat.le_trans hs1 (HO5.out.lt _ hg).1), own_base hog (fun g hg => by have := (hog.lt _ hg).1; omega)⟩, hw1.trans (hb.mono hs1)⟩

end Go.Proofs.Ytdnljmncdbcgeaa

/- book: Same, what is told at nil. -/
namespace Go.Proofs.Ytdnljmncdbcgeaa
open Go.RowKit Go.Maps

set_option maxRecDepth 100000 in
set_option maxHeartbeats 400000 in
theorem bookEntries_nil (w : World) : Calls Try.prog 17 #[.pointer none] w fun e w' => e = .returned (.slice none 0 0) ∧ Below w.heap.size w w' := by
  go_enter Try.func17, Try.ntmps17
  go_wp2_with fail
  refine (bookPaths_nil w).mono ?_
  rintro e w1 ⟨rfl, rfl⟩
  go_wp2_with fail
  go_loopw [2, 8] (fun ov iv wr => ov = .slice none 0 0 ∧ iv = .int .i64 0 ∧ wr = w) (fun _ _ _ => 0)
  case atStart => exact ⟨rfl, rfl, rfl⟩
  case round =>
    obtain ⟨rfl, rfl, rfl⟩ := hrel
    go_wp2_with fail
    go_ret
    exact ⟨rfl, Below.refl _ _⟩
set_option maxRecDepth 100000 in
set_option maxHeartbeats 400000 in
theorem bookPut_nil (w : World) : Calls Try.prog 15 #[.pointer none, .agg #[.string ⟨#[]⟩, .int .u64 0, .int .i64 0, .slice none 0 0]] w fun e w' => e = .returned (.int .i64 1) ∧ Below w.heap.size w w' := by
  go_enter Try.func15, Try.ntmps15
  go_wp2_with fail
  go_ret
  exact ⟨rfl, (by repeat (first | exact Below.refl _ _ | refine Below.alloc ?_ (by simp) _ | refine Below.setCell ?_ (by simp) _ | refine Below.drew ?_))⟩

set_option maxRecDepth 100000 in
set_option maxHeartbeats 1000000 in
theorem equalE_any (A B : Option Addr) (c d : Nat) (L M : List EV) (w : World) (h : EsR w A L) (h' : EsR w B M) :
    Calls Try.prog 75 #[.slice A L.length c, .slice B M.length d, .func (.func 76) #[] #[]] w fun e w' => e = .returned (.bool (decide (L.map EV.pl = M.map EV.pl))) ∧ Below w.heap.size w w' := by
  obtain ⟨R, hR⟩ : ∃ R, R = decide (L.map EV.pl = M.map EV.pl) := ⟨_, rfl⟩
  rw [← hR]
  have HR := Lib.hid hR
  have HL := Lib.hid h
  have HM := Lib.hid h'
  have hlen := h.len
  clear h h' hR
  by_cases hn : L.length = M.length
  · have HN := Lib.hid hn
    have hne : ((L.length : Int) != (M.length : Int)) = false := by simp; omega
    clear hn
    have hlm := HM.out.len
    go_enter Try.func75, Try.ntmps75
    go_wp2_with fail
    go_loopw [7, 17] (fun _ iv wr => ∃ i : Nat, i ≤ L.length ∧ iv = .int .i64 (i : Int) ∧ Hid ((L.take i).map EV.pl = (M.take i).map EV.pl) ∧ Below w.heap.size w wr) (fun _ iv _ => L.length - (intOf iv).toNat)
    case atStart => exact ⟨0, Nat.zero_le _, rfl, rfl, Below.refl _ _⟩
    case round =>
      obtain ⟨i, hi, rfl, hz, hb⟩ := hrel
      by_cases hlt : i < L.length
      · have hltm : i < M.length := by have := HN.out; omega
        obtain ⟨b, off, hA, hb1, c0, c1, c2, c3⟩ := (HL.out.below hb).at_ hlt
        obtain ⟨b2, off2, hB, hb2, d0, d1, d2, d3⟩ := (HM.out.below hb).at_ hltm
        subst hA
        subst hB
        have hx2 := Lib.hid ((HL.out.below hb).ok _ (List.getElem_mem hlt))
        have hy2 := Lib.hid ((HM.out.below hb).ok _ (List.getElem_mem hltm))
        have hs1 := Lib.hid (pl_snoc L i hlt)
        have hs2 := Lib.hid (pl_snoc M i hltm)
        have hg1 := Lib.hid (pl_get L i hlt)
        have hg2 := Lib.hid (pl_get M i hltm)
        generalize L[i] = x at *
        generalize M[i] = y at *
        obtain ⟨sm, hsm⟩ : ∃ sm, sm = decide (x.pl = y.pl) := ⟨_, rfl⟩
        have hba : Below wr.heap.size wr (wr.alloc (.cells #[.string x.p, .int .u64 x.v, .int .i64 x.k, .slice x.x.A x.x.l.length x.x.c] 28)) := (Below.refl _ _).alloc (Nat.le_refl _) _
        have hbb : Below wr.heap.size wr ((wr.alloc (.cells #[.string x.p, .int .u64 x.v, .int .i64 x.k, .slice x.x.A x.x.l.length x.x.c] 28)).alloc (.cells #[.string y.p, .int .u64 y.v, .int .i64 y.k, .slice y.x.A y.x.l.length y.x.c] 28)) := hba.alloc hba.size _
        have x1 := (Blk.new wr 28 #[.string x.p, .int .u64 x.v, .int .i64 x.k, .slice x.x.A x.x.l.length x.x.c]).below ((Below.refl _ _).alloc (Nat.le_refl _) (.cells #[.string y.p, .int .u64 y.v, .int .i64 y.k, .slice y.x.A y.x.l.length y.x.c] 28))
        have y1 := Blk.new (wr.alloc (.cells #[.string x.p, .int .u64 x.v, .int .i64 x.k, .slice x.x.A x.x.l.length x.x.c] 28)) 28 #[.string y.p, .int .u64 y.v, .int .i64 y.k, .slice y.x.A y.x.l.length y.x.c]
        rw [show (wr.alloc (.cells #[.string x.p, .int .u64 x.v, .int .i64 x.k, .slice x.x.A x.x.l.length x.x.c] 28)).heap.size = wr.heap.size + 1 by simp] at y1
        replace d0 := (hba.cell hb2).trans d0
        replace d1 := (hba.cell hb2).trans d1
        replace d2 := (hba.cell hb2).trans d2
        replace d3 := (hba.cell hb2).trans d3
        have HC : Hid (∀ W, Below wr.heap.size wr W → Calls Try.prog 76 #[.agg #[.string x.p, .int .u64 x.v, .int .i64 x.k, .slice x.x.A x.x.l.length x.x.c], .agg #[.string y.p, .int .u64 y.v, .int .i64 y.k, .slice y.x.A y.x.l.length y.x.c]] W fun e w' => e = .returned (.bool sm) ∧ Below W.heap.size W w') := Lib.hid (fun W hW => by
          rw [hsm, ← sameE_pl]
          exact entrySame_any _ _ _ _ _ _ _ _ _ _ _ _ _ _ W (hx2.out.below hW).1 (hy2.out.below hW).1)
        have HSM := Lib.hid hsm
        have HC2 := Lib.hid (HC.out _ hbb)
        clear hsm
        go_upto_region 7 with (fail)
        generalize ((wr.alloc (.cells #[.string x.p, .int .u64 x.v, .int .i64 x.k, .slice x.x.A x.x.l.length x.x.c] 28)).alloc (.cells #[.string y.p, .int .u64 y.v, .int .i64 y.k, .slice y.x.A y.x.l.length y.x.c] 28)) = w2 at *
        clear hba c0 c1 c2 c3 d0 d1 d2 d3
        have hw2 := hb.trans (hbb.mono hb.size)
        have q0 := x1.cell 0
        have q1 := x1.cell 1
        have q2 := x1.cell 2
        have q3 := x1.cell 3
        simp only [List.getElem?_toArray, List.getElem?_cons_zero, List.getElem?_cons_succ] at q0 q1 q2 q3
        have r0 := y1.cell 0
        have r1 := y1.cell 1
        have r2 := y1.cell 2
        have r3 := y1.cell 3
        simp only [List.getElem?_toArray, List.getElem?_cons_zero, List.getElem?_cons_succ] at r0 r1 r2 r3
        cases sm
        · obtain rfl : R = false := by
            rw [HR.out, decide_eq_false_iff_not]
            intro e
            have e2 := hg1.out
            rw [e, hg2.out] at e2
            injection e2 with e2
            have := HSM.out
            rw [e2] at this
            simp at this
          go_wp2_with fail
          refine HC2.out.mono ?_
          rintro e w3 ⟨rfl, hb3⟩
          have hw3 := hw2.trans (hb3.mono hw2.size)
          go_wp2_with fail
          go_ret
          exact ⟨rfl, hw3⟩
        · have HN2 : Hid ((L.take (i + 1)).map EV.pl = (M.take (i + 1)).map EV.pl) := by
            show _ = _
            have := HSM.out
            rw [eq_comm, decide_eq_true_eq] at this
            rw [hs1.out, hs2.out, hz.out, this]
          go_wp2_with fail
          refine HC2.out.mono ?_
          rintro e w3 ⟨rfl, hb3⟩
          have hw3 := hw2.trans (hb3.mono hw2.size)
          go_wp2_with fail
          go_roundw
          case rel => exact ⟨i + 1, hlt, by go_num, HN2, hw3⟩
          case measure => simp [intOf]; omega
      · have e : i = L.length := by omega
        subst e
        obtain rfl : R = true := by
          rw [HR.out, decide_eq_true_eq]
          have := hz.out
          rw [List.take_length, HN.out, List.take_length] at this
          exact this
        clear hz
        go_wp2_with fail
        go_ret
        exact ⟨rfl, hb⟩
  · obtain rfl : R = false := by
      rw [HR.out, decide_eq_false_iff_not]
      intro e
      have := congrArg List.length e
      rw [List.length_map, List.length_map] at this
      exact hn this
    have hne : ((L.length : Int) != (M.length : Int)) = true := by simp; omega
    go_enter Try.func75, Try.ntmps75
    go_wp2_with fail
    go_ret
    exact ⟨rfl, Below.refl _ _⟩

set_option maxRecDepth 100000 in
set_option maxHeartbeats 400000 in
theorem bookSame_any (bb : Nat) (mo : Option Nat) (L : List (List UInt8 × EV)) (s : Int) (cb : Nat) (mo' : Option Nat) (L' : List (List UInt8 × EV)) (s' : Int) (w : World) (h : BookAt w bb mo L s) (h' : BookAt w cb mo' L' s') :
    Calls Try.prog 33 #[.pointer (some ⟨bb, 0, none⟩), .pointer (some ⟨cb, 0, none⟩)] w fun e w' => e = .returned (.bool (decide (plainB L = plainB L'))) ∧ Below w.heap.size w w' := by
  have HE := Lib.hid (bookEntries_any bb mo L s w h)
  have HB := Lib.hid h'
  have hl1 := h.len
  have hl2 := h'.len
  clear h h'
  go_enter Try.func33, Try.ntmps33
  go_wp2_with fail
  refine HE.out.mono ?_
  rintro e w1 ⟨A1, c1, M1, rfl, hM1, hO1, hb1⟩
  have HE2 := Lib.hid (bookEntries_any cb mo' L' s' w1 (HB.out.below hb1))
  clear HE
  go_wp2_with fail
  refine HE2.out.mono ?_
  rintro e w2 ⟨A2, c2, M2, rfl, hM2, hO2, hb2⟩
  have hw2 := hb1.trans (hb2.mono hb1.size)
  have hl1' : M1.length ≤ 256 := by have := congrArg List.length hM1.out; rw [List.length_map, plainB_len] at this; omega
  have hl2' : M2.length ≤ 256 := by have := congrArg List.length hM2.out; rw [List.length_map, plainB_len] at this; omega
  have HQ := equalE_any A1 A2 c1 c2 M1 M2 w2 ((hO1.esr (by omega)).below hb2) (hO2.esr (by omega))
  rw [hM1.out, hM2.out] at HQ
  have HQ := Lib.hid HQ
  clear HE2 hM1 hM2 hO1 hO2
  go_wp2_with fail
  refine HQ.out.mono ?_
  rintro e w3 ⟨rfl, hb3⟩
  go_wp2_with fail
  go_ret
  exact ⟨rfl, hw2.trans (hb3.mono hw2.size)⟩
set_option maxRecDepth 100000 in
set_option maxHeartbeats 400000 in
theorem bookSame_plain (cb : Nat) (s' : Int) (w : World) (h' : BookAt w cb none [] s') :
    Calls Try.prog 33 #[.pointer none, .pointer (some ⟨cb, 0, none⟩)] w fun e w' => e = .returned (.bool true) ∧ Below w.heap.size w w' := by
  have HB := Lib.hid h'
  clear h'
  go_enter Try.func33, Try.ntmps33
  go_wp2_with fail
  refine (bookEntries_nil w).mono ?_
  rintro e w1 ⟨rfl, hb1⟩
  have HE2 := Lib.hid (bookEntries_any cb none [] s' w1 (HB.out.below hb1))
  go_wp2_with fail
  refine HE2.out.mono ?_
  rintro e w2 ⟨A2, c2, M2, rfl, hM2, hO2, hb2⟩
  have hw2 := hb1.trans (hb2.mono hb1.size)
  obtain rfl : M2 = [] := by
    have := congrArg List.length hM2.out
    rw [List.length_map, plainB_len] at this
    exact List.eq_nil_of_length_eq_zero this
  have HQ := equalE_any none A2 0 c2 [] [] w2 ⟨Rd.nil, by simp, by simp⟩ (hO2.esr (by simp))
  rw [show decide (([] : List EV).map EV.pl = ([] : List EV).map EV.pl) = true by simp] at HQ
  have HQ := Lib.hid HQ
  clear HE2 hM2 hO2
  go_wp2_with fail
  refine HQ.out.mono ?_
  rintro e w3 ⟨rfl, hb3⟩
  go_wp2_with fail
  go_ret
  exact ⟨rfl, hw2.trans (hb3.mono hw2.size)⟩
end Go.Proofs.Ytdnljmncdbcgeaa
