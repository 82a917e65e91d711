/- merge: Changes. -/
import Derived.Test.YtdnljmncdbcgeaaA11

namespace Go.Proofs.Ytdnljmncdbcgeaa
open Go.RowKit Go.Maps

def mapM (T : List (List UInt8 × Int)) : List (List UInt8 × Value) := T.map fun x => (x.1, Value.bool true)
theorem mapM_put (T : List (List UInt8 × Int)) (p : List UInt8) (v : Int) : mapM (putR T p v) = putR (mapM T) p (.bool true) := (put_map (fun _ => Value.bool true) T p v).symm
theorem keys_mapM (T : List (List UInt8 × Int)) : keysR (mapM T) = keysR T := keys_map (fun _ => Value.bool true) T
theorem gotE_k (L : List (List UInt8 × EV)) (p : List UInt8) : (gotE L p).k = kindP (plainB L) p := by
  unfold gotE kindP
  rw [get_plainB]
  rcases getR L p with _ | o <;> rfl
/-- changes told: a row of the call's own -/
def ChOwn (w : World) (base : Nat) (e : Ending) (l : List CV) : Prop :=
  ∃ (A : Option Addr) (c : Nat) (l' : List CV), e = .returned (.slice A l'.length c) ∧ Hid (l' = l) ∧ Row w base 62 9 A l'.length c (l'.flatMap CV.cells)
/-- append of one change -/
theorem wpList_append_ch {w : World} {ops : Array Oper} {rest : List Oper} {o : Oper} {a : Act} {Q : Exit → Act → World → Prop} (hgd : o.guard = none) (s x : Operand) {t : TypeId} (hu : Try.prog.underlying t = some (.slice 62))
    (ho : o.op = .call { callee := .builtin .append, args := #[s, x], argTypes := #[t, t] })
    {base : Nat} {A : Option Addr} {c : Nat} {L : List CV} {y : CV} {g : Nat} (hs : a.eval s = .slice A L.length c) (hown : Row w base 62 9 A L.length c (L.flatMap CV.cells)) (hx : a.eval x = .slice (some ⟨g, 0, none⟩) 1 1) (hr : Rd w (fun _ => True) 9 (some ⟨g, 0, none⟩) 1 (CV.cells y))
    (hsum : L.length + 1 ≤ 1099511627776) (hbase : base ≤ w.heap.size)
    (h : ∀ (A' : Option Addr) (c' : Nat) (w' : World), Row w' base 62 9 A' (L ++ [y]).length c' ((L ++ [y]).flatMap CV.cells) → Below base w w' → wpList Try.prog ops Q rest (a.put o.dst (.slice A' (L.length + 1) c')) w') : wpList Try.prog ops Q (o :: rest) a w := by
  obtain ⟨i0, hi0, hz0, hz1, hz2⟩ := info_parts ch_info
  refine wpList_append_row w hgd s x t ho base 62 i0 _ 9 72 hu hi0 hz0 hz1 hz2 rfl (by omega) hs hown hx hr (fun u hu => ch_one [y] u (by simpa using hu)) (by simp only [maxLen]; omega) (by omega) hbase ?_
  intro A' c' w' h1 h2 h3
  refine h A' c' w' ?_ (grown_below h2 hbase (fun g e => (hown.lt g e).1))
  rw [List.length_append, List.flatMap_append, List.flatMap_cons, List.flatMap_nil, List.append_nil]
  exact h1
theorem keysM_len (l : List RV) : (mapM (theirsS (l.map RV.pv))).length = (pathsR l).length := by
  unfold pathsR mapM
  rw [List.length_map, keys_len]

set_option maxRecDepth 100000 in
set_option maxHeartbeats 8000000 in
theorem mergeChanges_any (bb : Nat) (mo : Option Nat) (L : List (List UInt8 × EV)) (s : Int) (T : List (List UInt8 × EP)) (C : Option Addr) (c : Nat) (mine : List RV) (D : Option Addr) (d : Nat) (theirs : List RV) (w : World) (h : BookAt w bb mo L s) (hL : plainB L = T) (hm : RwR w C mine) (ht : RwR w D theirs) (hl : mine.length ≤ 1000 ∧ theirs.length ≤ 1000) :
    Calls Try.prog 27 #[.pointer (some ⟨bb, 0, none⟩), .slice C mine.length c, .slice D theirs.length d] w fun e w' => ChOwn w' w.heap.size e (chgS T mine theirs) ∧ Below w.heap.size w w' := by
  have hw0 : Below w.heap.size w (w.alloc (.map #[] 0)) := (by repeat (first | exact Below.refl _ _ | refine Below.alloc ?_ (by simp) _ | refine Below.setCell ?_ (by simp) _ | refine Below.drew ?_))
  have hm0 : MapAt (w.alloc (.map #[] 0)) Try.prog 9 w.heap.size (mapM []) := MapAt.made w Try.prog 9
  have HB := Lib.hid h
  have HM := Lib.hid hm
  have HT := Lib.hid ht
  have HPL := Lib.hid hL
  obtain ⟨hl1, hl2⟩ := hl
  obtain ⟨al, hal⟩ : ∃ al, al = mine ++ theirs := ⟨_, rfl⟩
  have hall : al.length ≤ 2000 := by rw [hal]; simp; omega
  obtain ⟨G, hG⟩ : ∃ G, G = chgS T mine theirs := ⟨_, rfl⟩
  rw [← hG]
  have HG : Hid (G = (pathsR al).map (chgV T mine theirs)) := Lib.hid (by rw [hG, hal]; rfl)
  have HAL := Lib.hid hal
  have hmm := @run_makeMap Try.prog
  obtain ⟨mb, hmb⟩ : ∃ mb, mb = w.heap.size := ⟨_, rfl⟩
  rw [← hmb] at hm0
  clear h hm ht hL hG hal
  go_enter Try.func27, Try.ntmps27
  go_upto_region 2 with (fail)
  clear hmm
  generalize w.alloc (.map #[] 0) = w1 at *
  rw [← hmb]
  have HM0 := Lib.hid hm0
  have hml := hm0.lt
  have hmw : w.heap.size ≤ mb := by omega
  clear hm0 hmb
  have HCN := Lib.hid (cloneRw_any C c mine _ w1 (HM.out.below hw0).rd (by omega))
  go_wp2_with fail
  refine HCN.out.mono ?_
  rintro e w2 ⟨A2, c2, rfl, hR2, hb2⟩
  obtain ⟨i0, hi0, hz0, hz1, hz2⟩ := info_parts row_info
  have HR2 := Lib.hid hR2
  have HT2 := Lib.hid ((HT.out.below hw0).below hb2)
  have hsb2 := hb2.size
  clear HCN hR2
  go_wp2_with (at_builtin; refine wpList_append_row _ rfl (.tmp 20) (.tmp 21) 47 rfl w1.heap.size 52 i0 _ 5 48 Try.underlying47 hi0 hz0 hz1 hz2 rfl (by omega) rfl HR2.out rfl HT2.out.rd (rv_one _) (by simp only [maxLen]; omega) (by omega) hsb2 ?_; intro A3 c3 w3 h31 h32 _; have hb3 : Below w1.heap.size w1 w3 := hb2.trans (grown_below h32 hsb2 (fun g e => (HR2.out.lt g e).1)); have hln : mine.length + theirs.length = al.length := (by rw [HAL.out, List.length_append]); rw [hln, ← List.flatMap_append, ← HAL.out] at h31; rw [hln])
  have HRD : Hid (Rd w3 (fun b => w1.heap.size ≤ b) 5 A3 al.length (al.flatMap RV.cells)) := Lib.hid (h31.rd.mono (fun b hb hz => (h31.lt b hz).1))
  have HOK : Hid (∀ x ∈ al, x.p.size ≤ 1048576 ∧ 0 ≤ x.v ∧ x.v < 18446744073709551616) := Lib.hid (fun x hx => by
    rw [HAL.out] at hx
    rcases List.mem_append.1 hx with hx | hx
    · exact HM.out.ok x hx
    · exact HT.out.ok x hx)
  have HM3 : Hid (MapAt w3 Try.prog 9 mb (mapM [])) := Lib.hid (HM0.out.below hb3)
  have hw3 := hw0.trans (hb3.mono hw0.size)
  clear HR2 HT2 h31 h32 HM0 hb2 hsb2 hb3
  go_loopw [24] (fun iv wr => ∃ i : Nat, i ≤ al.length ∧ iv = .int .i64 (i : Int) ∧ MapAt wr Try.prog 9 mb (mapM (theirsS ((al.take i).map RV.pv))) ∧ Fr (fun z => z = mb) w3 wr) (fun iv _ => al.length - (intOf iv).toNat)
  case atStart => exact ⟨0, Nat.zero_le _, rfl, HM3.out, Fr.refl _ _⟩
  case round =>
    clear HM3
    obtain ⟨i, hi, rfl, hm, hf⟩ := hrel
    by_cases hlt : i < al.length
    · have hr : RwR wr A3 al := ⟨(HRD.out.fr hf (fun b _ hz e => by have hz' : w1.heap.size ≤ b := hz; omega)).mono (fun _ _ _ => trivial), HOK.out, by omega⟩
      obtain ⟨b, off, hA, hbb, c0, c1, c2, c3, c4⟩ := hr.at_ hlt
      have hxo := (HOK.out _ (List.getElem_mem hlt)).1
      have hs : theirsS ((al.take (i + 1)).map RV.pv) = putR (theirsS ((al.take i).map RV.pv)) (tl al[i].p) (max ((getR (theirsS ((al.take i).map RV.pv)) (tl al[i].p)).getD 0) al[i].v) := by
        rw [pv_snoc al i hlt, theirsS_snoc]
        rfl
      obtain ⟨x, hx⟩ : ∃ x, x = al[i] := ⟨_, rfl⟩
      rw [← hx] at c0 c1 c2 c3 c4 hs hxo
      have hTl : (theirsS ((al.take i).map RV.pv)).length ≤ 1000000 := by
        have h1 := theirs_len ((al.take i).map RV.pv)
        rw [List.length_map, List.length_take] at h1
        omega
      generalize theirsS ((al.take i).map RV.pv) = TT at *
      have hba : Below wr.heap.size wr (wr.alloc (.cells #[.string x.p, .int .i64 x.k, .int .u64 x.v, .int .u64 x.s, .int .i64 x.z] 52)) := (Below.refl _ _).alloc (Nat.le_refl _) _
      have z2 := Blk.new wr 52 #[.string x.p, .int .i64 x.k, .int .u64 x.v, .int .u64 x.s, .int .i64 x.z]
      have hm2 := hm.below hba
      have hf2 := hf.then_below hba
      have hxs : (tl x.p).length ≤ 1048576 := by rw [tl_len]; omega
      subst hA
      clear hx hm hr hf
      go_upto_region 5 with (fail)
      generalize wr.alloc (.cells #[.string x.p, .int .i64 x.k, .int .u64 x.v, .int .u64 x.s, .int .i64 x.z] 52) = w4 at *
      have q0 := z2.cell 0
      have q1 := z2.cell 1
      have q2 := z2.cell 2
      have q3 := z2.cell 3
      have q4 := z2.cell 4
      simp only [List.getElem?_toArray, List.getElem?_cons_zero, List.getElem?_cons_succ] at q0 q1 q2 q3 q4
      obtain ⟨w5, hrun5, hm5, hg5, _⟩ := hm2.store Try.underlying9 (t := 118) (e := 4) Try.underlying118 (tl x.p) (by simp only [maxLen]; omega) (.bool true) (by simp only [mapM, List.length_map, maxLen]; omega)
      have HM5 : Hid (MapAt w5 Try.prog 9 mb (mapM (theirsS ((al.take (i + 1)).map RV.pv)))) := Lib.hid (by rw [hs, mapM_put]; exact hm5)
      have hf5 := hf2.trans (Fr.of_grown hg5 (S := fun g => g = mb) (fun k _ e => by injection e with e; exact e.symm)) (fun _ _ h => h)
      clear hba c0 c1 c2 c3 c4 hs hm2 hm5 hg5 hf2 z2
      go_wp2_with fail
      go_roundw
      case rel => exact ⟨i + 1, hlt, by go_num, HM5.out, hf5⟩
      case measure => simp [intOf]; omega
    · have e : i = al.length := by omega
      subst e
      rw [List.take_length] at hm
      obtain ⟨w5, hw5e⟩ : ∃ w5, w5 = wr := ⟨_, rfl⟩
      rw [← hw5e] at hm hf
      have hw5 : Below w.heap.size w w5 := hw3.trans (hf.below (B := w.heap.size) hw3.size (fun k hk e => by omega))
      have hpl := pathsR_len al
      have hkl : ∀ x ∈ mapM (theirsS (al.map RV.pv)), x.1.length ≤ 140737488355328 := fun x hx => by
        have h1 : x.1 ∈ pathsR al := by unfold pathsR; rw [← keys_mapM]; exact List.mem_map.2 ⟨x, hx, rfl⟩
        rw [pathsR_mem] at h1
        obtain ⟨y, hy, e⟩ := List.mem_map.1 h1
        have := (HOK.out y hy).1
        rw [← e, tl_len]
        omega
      have hSC := sortedC_any w5 hm (by rw [keysM_len]; omega) hkl
      rw [keysM_len, keys_mapM] at hSC
      have HSC : Hid _ := Lib.hid hSC
      have HPP : Hid (∀ q ∈ pathsR al, q.length ≤ 1048576) := Lib.hid (fun q hq => by
        rw [pathsR_mem] at hq
        obtain ⟨y, hy, e⟩ := List.mem_map.1 hq
        have := (HOK.out y hy).1
        rw [← e, tl_len]
        omega)
      change Hid (Calls _ _ _ _ (fun e w' => ∃ A c, e = .returned (.slice A (pathsR al).length c) ∧ w'.ownsRow w5.heap.size 9 1 (.slice A (pathsR al).length c) (pathsR al).length ((pathsR al).map stv) ∧ Below w5.heap.size w5 w')) at HSC
      obtain ⟨P, hP⟩ : ∃ P, P = pathsR al := ⟨_, rfl⟩
      rw [← hP] at HSC HPP HG hpl
      subst hw5e
      clear hSC hm hf hkl hP HRD HOK HAL
      go_wp2_with fail
      refine (keysC_any mb w5).mono ?_
      rintro e w6 ⟨rfl, rfl⟩
      go_wp2_with fail
      refine HSC.out.mono ?_
      rintro e w7 ⟨A7, c7, rfl, ho7, hb7⟩
      have HO7 := Lib.hid ho7
      have hw7 := hw5.trans (hb7.mono hw5.size)
      clear HSC ho7 hb7
      go_wp2_with fail
      go_loopw [6, 36] (fun ov iv wr => ∃ (i : Nat) (A : Option Addr) (c' : Nat) (cl : List CV), i ≤ P.length ∧ iv = .int .i64 (i : Int) ∧ ov = .slice A cl.length c' ∧ Hid (cl = (P.take i).map (chgV T mine theirs)) ∧ cl.length ≤ i ∧ Row wr w7.heap.size 62 9 A cl.length c' (cl.flatMap CV.cells) ∧ Below w7.heap.size w7 wr) (fun _ iv _ => P.length - (intOf iv).toNat)
      case atStart => exact ⟨0, none, 0, [], Nat.zero_le _, rfl, rfl, rfl, Nat.le_refl _, Row.none_ _ _ _ _, Below.refl _ _⟩
      case round =>
        obtain ⟨i, A, c', cl, hi, rfl, rfl, hcl, hcll, hO, hb⟩ := hrel
        have hwr := hw7.trans (hb.mono hw7.size)
        by_cases hlt : i < P.length
        · obtain ⟨b0, off, hA, hbb, c0⟩ := txt_atE rfl (own_below HO7.out hb) hlt
          have hps := HPP.out _ (List.getElem_mem hlt)
          have hss : (P.take (i + 1)).map (chgV T mine theirs) = cl ++ [chgV T mine theirs P[i]] := by
            rw [List.take_succ_eq_append_getElem hlt, List.map_append, ← hcl.out]
            rfl
          obtain ⟨p, hp⟩ : ∃ p, p = P[i] := ⟨_, rfl⟩
          rw [← hp] at c0 hps hss
          simp only [stv] at c0
          have HS := Lib.hid hss
          have HGT := Lib.hid (bookGet_any bb mo L s p wr (HB.out.below hwr) (by simp only [maxLen]; omega))
          subst hA
          clear hp hss hcl
          go_wp2_with fail
          refine HGT.out.mono ?_
          rintro e w4 ⟨q, v, b, A4, c4, l4, rfl, hq, _, hb4⟩
          have HBK : Hid (b = kindP T p) := Lib.hid (by rw [← HPL.out, ← gotE_k]; exact hq.out.2.2.1)
          have hf1 := fun W => (show (Instr.field 28 (.agg #[.string q, .int .u64 v, .int .i64 b, .slice A4 l4.length c4]) 2).run Try.prog W = .ok (.agg #[.int .i64 b, .slice A4 l4.length c4]) W by kernel_rfl)
          have hf2 := fun W => (show (Instr.field 26 (.agg #[.int .i64 b, .slice A4 l4.length c4]) 0).run Try.prog W = .ok (.int .i64 b) W by kernel_rfl)
          have hba : Below w4.heap.size w4 (w4.alloc (.cells #[.string ⟨⟨p⟩⟩, .int .i64 b, .bool false, .bool false, .int .i64 b, .int .i64 b, .int .i64 0, .int .i64 0, .int .i64 0] 62)) := (Below.refl _ _).alloc (Nat.le_refl _) _
          have yA := Blk.new w4 62 #[.string ⟨⟨p⟩⟩, .int .i64 b, .bool false, .bool false, .int .i64 b, .int .i64 b, .int .i64 0, .int .i64 0, .int .i64 0]
          have hw5' := hb4.trans (hba.mono hb4.size)
          have hcbl : wr.heap.size ≤ w4.heap.size := hb4.size
          clear HGT hq c0
          go_upto_region 12 with (fail)
          generalize w4.alloc (.cells #[.string ⟨⟨p⟩⟩, .int .i64 b, .bool false, .bool false, .int .i64 b, .int .i64 b, .int .i64 0, .int .i64 0, .int .i64 0] 62) = w5a at *
          clear hba
          have HF1 := Lib.hid (scanFind_any C c mine ⟨⟨p⟩⟩ w5a (HM.out.below (hwr.trans (hw5'.mono hwr.size))))
          go_wp2_with fail
          refine HF1.out.mono ?_
          rintro e w5b ⟨⟨x1, rfl, hx1⟩, hb5⟩
          have hw5b := hw5'.trans (hb5.mono hw5'.size)
          have y5b := yA.below hb5
          have z5 := Blk.new w5b 52 #[.string x1.p, .int .i64 x1.k, .int .u64 x1.v, .int .u64 x1.s, .int .i64 x1.z]
          have hba5 : Below w5b.heap.size w5b (w5b.alloc (.cells #[.string x1.p, .int .i64 x1.k, .int .u64 x1.v, .int .u64 x1.s, .int .i64 x1.z] 52)) := (Below.refl _ _).alloc (Nat.le_refl _) _
          have y5 := y5b.below hba5
          have hw5c := hw5b.trans (hba5.mono hw5b.size)
          have hcl5 := y5b.lt
          clear HF1 hb5 y5b yA
          rcases hfm : findRv ⟨⟨p⟩⟩ mine with _ | z
          · have HFM := Lib.hid hfm
            clear hx1 z5
            go_upto_region 15 with (fail)
            generalize (w5b.alloc (.cells #[.string x1.p, .int .i64 x1.k, .int .u64 x1.v, .int .u64 x1.s, .int .i64 x1.z] 52)) = wm at *
            have yA := y5
            clear hba5 y5 hfm
            have HF2 := Lib.hid (scanFind_any D d theirs ⟨⟨p⟩⟩ wm (HT.out.below (hwr.trans ((hw5c).mono hwr.size))))
            go_wp2_with fail
            refine HF2.out.mono ?_
            rintro e w6 ⟨⟨x2, rfl, hx2⟩, hb6⟩
            have hw6 := (hw5c).trans (hb6.mono (hw5c).size)
            have y6 := yA.below hb6
            have z7 := Blk.new w6 52 #[.string x2.p, .int .i64 x2.k, .int .u64 x2.v, .int .u64 x2.s, .int .i64 x2.z]
            have hba7 : Below w6.heap.size w6 (w6.alloc (.cells #[.string x2.p, .int .i64 x2.k, .int .u64 x2.v, .int .u64 x2.s, .int .i64 x2.z] 52)) := (Below.refl _ _).alloc (Nat.le_refl _) _
            have y7 := y6.below hba7
            have hw7' := hw6.trans (hba7.mono hw6.size)
            have y7l := y6.lt
            clear HF2 hb6 y6 yA
            rcases hft : findRv ⟨⟨p⟩⟩ theirs with _ | z
            · have HFT := Lib.hid hft
              clear hft hx2 z7
              go_upto_region 16 with (fail)
              generalize (w6.alloc (.cells #[.string x2.p, .int .i64 x2.k, .int .u64 x2.v, .int .u64 x2.s, .int .i64 x2.z] 52)) = wt at *
              clear hba7
              have yC := y7
              clear y7
              obtain ⟨vd, hvd⟩ : ∃ vd, vd = verd false false (b) (b) (0) (0) := ⟨_, rfl⟩
              have HVD := Lib.hid (verdict_any ⟨⟨p⟩⟩ b false false (b) (b) (0) (0) 0 wt)
              rw [← hvd] at HVD
              have HCV : Hid (chgV T mine theirs p = ⟨⟨⟨p⟩⟩, b, false, false, b, b, 0, 0, vd⟩) := Lib.hid (by
                unfold chgV
                rw [← HBK.out, HFM.out, HFT.out, hvd]
                rfl)
              have p0 := yC.cell 0
              have p1 := yC.cell 1
              have p2 := yC.cell 2
              have p3 := yC.cell 3
              have p4 := yC.cell 4
              have p5 := yC.cell 5
              have p6 := yC.cell 6
              have p7 := yC.cell 7
              have p8 := yC.cell 8
              simp only [List.getElem?_toArray, List.getElem?_cons_zero, List.getElem?_cons_succ] at p0 p1 p2 p3 p4 p5 p6 p7 p8
              clear hvd HFM HFT
              go_wp2_with fail
              refine HVD.out.mono ?_
              rintro e w8 ⟨rfl, hb8⟩
              have hw8 := hw7'.trans (hb8.mono hw7'.size)
              have y8 := yC.below hb8
              have fr8 := fun o => y8.frozen o
              have ho8 := (hO.below (hw7')).below hb8
              have k9 : Fr (fun z => z = w4.heap.size) w8 (w8.setCell ⟨w4.heap.size, 8, none⟩ (.int .i64 vd)) := (Fr.refl (fun z => z = w4.heap.size) w8).setAt w4.heap.size _ rfl _
              have y9 := y8.set_ 8 (.int .i64 vd)
              simp only [List.setIfInBounds_toArray, List.set_cons_zero, List.set_cons_succ] at y9
              have ho9 := ho8.fr k9 (fun g hg e => by have := (ho8.lt g hg); have := (hO.lt g hg).2; omega)
              have hw9 : Below wr.heap.size wr (w8.setCell ⟨w4.heap.size, 8, none⟩ (.int .i64 vd)) := hw8.trans (k9.below (B := wr.heap.size) hw8.size (fun k hk e => by omega))
              have q0 := y8.cell 0
              have q1 := y8.cell 1
              have q2 := y8.cell 2
              have q3 := y8.cell 3
              have q4 := y8.cell 4
              have q5 := y8.cell 5
              have q6 := y8.cell 6
              have q7 := y8.cell 7
              have q8 := y8.cell 8
              simp only [List.getElem?_toArray, List.getElem?_cons_zero, List.getElem?_cons_succ] at q0 q1 q2 q3 q4 q5 q6 q7 q8
              clear HVD p0 p1 p2 p3 p4 p5 p6 p7 p8 yC
              go_upto_region 19 with (fail)
              generalize w8.setCell ⟨w4.heap.size, 8, none⟩ (.int .i64 vd) = w9 at *
              clear q0 q1 q2 q3 q4 q5 q6 q7 q8 fr8 k9 y8 ho8
              have q0 := y9.cell 0
              have q1 := y9.cell 1
              have q2 := y9.cell 2
              have q3 := y9.cell 3
              have q4 := y9.cell 4
              have q5 := y9.cell 5
              have q6 := y9.cell 6
              have q7 := y9.cell 7
              have q8 := y9.cell 8
              simp only [List.getElem?_toArray, List.getElem?_cons_zero, List.getElem?_cons_succ] at q0 q1 q2 q3 q4 q5 q6 q7 q8
              have HOA := Lib.hid (ho9.below ((Below.refl _ w9).alloc (Nat.le_refl _) (.cells #[.string ⟨⟨p⟩⟩, .int .i64 b, .bool false, .bool false, .int .i64 b, .int .i64 b, .int .i64 0, .int .i64 0, .int .i64 vd] 62)))
              have HRA : Hid (Rd (w9.alloc (.cells #[.string ⟨⟨p⟩⟩, .int .i64 b, .bool false, .bool false, .int .i64 b, .int .i64 b, .int .i64 0, .int .i64 0, .int .i64 vd] 62)) (fun _ => True) 9 (some ⟨w9.heap.size, 0, none⟩) 1 (CV.cells ⟨⟨⟨p⟩⟩, b, false, false, b, b, 0, 0, vd⟩)) := (Rd.lit (w := w9) (t := 62) (size := 9) (n := 1) (xs := CV.cells ⟨⟨⟨p⟩⟩, b, false, false, b, b, 0, 0, vd⟩) rfl rfl rfl).mono (fun _ _ _ => trivial)
              have hs9 : w7.heap.size ≤ (w9.alloc (.cells #[.string ⟨⟨p⟩⟩, .int .i64 b, .bool false, .bool false, .int .i64 b, .int .i64 b, .int .i64 0, .int .i64 0, .int .i64 vd] 62)).heap.size := by have := hb.size; have := hw9.size; simp; omega
              have hba9 := hw9.alloc hw9.size (.cells #[.string ⟨⟨p⟩⟩, .int .i64 b, .bool false, .bool false, .int .i64 b, .int .i64 b, .int .i64 0, .int .i64 0, .int .i64 vd] 62)
              clear ho9 y9
              go_wp2_with (at_builtin; refine wpList_append_ch rfl (.tmp 81) (.tmp 83) (t := 56) rfl rfl rfl HOA.out rfl HRA.out (by omega) hs9 ?_; intro A10 c10 w10 hO10 hb10)
              have hbb : Below w7.heap.size w7 w10 := (hb.trans (hba9.mono hb.size)).trans hb10
              have HN := Lib.hid HS.out
              rw [HCV.out] at HN
              go_roundw
              case rel => exact ⟨i + 1, A10, c10, cl ++ [⟨⟨⟨p⟩⟩, b, false, false, b, b, 0, 0, vd⟩], hlt, by go_num, by simp, Lib.hid HN.out.symm, by simp; omega, hO10, hbb⟩
              case measure => simp [intOf]; omega
            · have hxz : x2 = z := by rw [hx2.out]; unfold rowF; rw [hft]; rfl
              subst hxz
              have HFT := Lib.hid hft
              clear hft hx2
              go_upto_region 17 with (fail)
              generalize (w6.alloc (.cells #[.string x2.p, .int .i64 x2.k, .int .u64 x2.v, .int .u64 x2.s, .int .i64 x2.z] 52)) = wt at *
              clear hba7
              have hzl := z7.lt
              have hC0 : Fr (fun x => x = w4.heap.size) wt wt.drew := (Fr.refl _ wt).drew
              refine wp_region_line (.tell 0 (.tell 1 (.tell 2 (.tell 3 (.tell 4 (.one 5 (.tell 6 (.one 7 (.tell 8 (.one 9 .done)))))))))) (fun W => Fr (fun x => x = w4.heap.size) wt W) (by kernel_rfl) (by kernel_rfl) ?_
              refine pl_val (by (simp only [List.getElem?_toArray, List.getElem?_cons_zero]; rfl)) (by kernel_rfl) ⟨_, (by (intro w' hC; clear hC; (try go_simp); (try with_reducible rfl); done)), _, (by (simp only [Act.put, List.setIfInBounds_toArray, List.set_cons_zero, List.set_cons_succ]; rfl)), ?_⟩
              refine pl_val (by (simp only [List.getElem?_toArray, List.getElem?_cons_succ, List.getElem?_cons_zero]; rfl)) (by kernel_rfl) ⟨_, (by (intro w' hC; have tz := (z7.fr hC (by omega)).cell 1; simp only [List.getElem?_toArray, List.getElem?_cons_zero, List.getElem?_cons_succ] at tz; clear hC; (try go_simp); (try with_reducible rfl); done)), _, (by (simp only [Act.put, List.setIfInBounds_toArray, List.set_cons_zero, List.set_cons_succ]; rfl)), ?_⟩
              refine pl_val (by (simp only [List.getElem?_toArray, List.getElem?_cons_succ, List.getElem?_cons_zero]; rfl)) (by kernel_rfl) ⟨_, (by (intro w' hC; clear hC; (try go_simp); (try with_reducible rfl); done)), _, (by (simp only [Act.put, List.setIfInBounds_toArray, List.set_cons_zero, List.set_cons_succ]; rfl)), ?_⟩
              refine pl_val (by (simp only [List.getElem?_toArray, List.getElem?_cons_succ, List.getElem?_cons_zero]; rfl)) (by kernel_rfl) ⟨_, (by (intro w' hC; have tz := (z7.fr hC (by omega)).cell 4; simp only [List.getElem?_toArray, List.getElem?_cons_zero, List.getElem?_cons_succ] at tz; clear hC; (try go_simp); (try with_reducible rfl); done)), _, (by (simp only [Act.put, List.setIfInBounds_toArray, List.set_cons_zero, List.set_cons_succ]; rfl)), ?_⟩
              refine pl_val (by (simp only [List.getElem?_toArray, List.getElem?_cons_succ, List.getElem?_cons_zero]; rfl)) (by kernel_rfl) ⟨_, (by (intro w' hC; clear hC; (try go_simp); (try with_reducible rfl); done)), _, (by (simp only [Act.put, List.setIfInBounds_toArray, List.set_cons_zero, List.set_cons_succ]; rfl)), ?_⟩
              have yd := y7.drew
              have hwd := (hw7').trans ((Below.refl wt.heap.size wt).drew.mono (hw7').size)
              generalize wt.drew = wd at *
              have f0 := fun o => yd.frozen o
              have r0 := yd.cell 3
              simp only [List.getElem?_toArray, List.getElem?_cons_zero, List.getElem?_cons_succ] at r0
              refine pl_one (by (simp only [List.getElem?_toArray, List.getElem?_cons_succ, List.getElem?_cons_zero]; rfl)) hC0 ?_
              refine al_skip (by kernel_rfl) ⟨_, (by (go_simp; first | done | rfl)), _, (by (simp only [Act.put]; rfl)), ?_⟩
              refine pl_val (by (simp only [List.getElem?_toArray, List.getElem?_cons_succ, List.getElem?_cons_zero]; rfl)) (by kernel_rfl) ⟨_, (by (intro w' hC; clear hC; (try go_simp); (try with_reducible rfl); done)), _, (by (simp only [Act.put, List.setIfInBounds_toArray, List.set_cons_zero, List.set_cons_succ]; rfl)), ?_⟩
              have f1 := fun o => (yd.set_ 3 (.bool true)).frozen o
              have r1 := (yd.set_ 3 (.bool true)).cell 5
              simp only [List.setIfInBounds_toArray, List.set_cons_zero, List.set_cons_succ, List.getElem?_toArray, List.getElem?_cons_zero, List.getElem?_cons_succ] at r1
              refine pl_one (by (simp only [List.getElem?_toArray, List.getElem?_cons_succ, List.getElem?_cons_zero]; rfl)) (hC0.setAt w4.heap.size _ rfl _) ?_
              refine al_skip (by kernel_rfl) ⟨_, (by (go_simp; first | done | rfl)), _, (by (simp only [Act.put]; rfl)), ?_⟩
              refine pl_val (by (simp only [List.getElem?_toArray, List.getElem?_cons_succ, List.getElem?_cons_zero]; rfl)) (by kernel_rfl) ⟨_, (by (intro w' hC; clear hC; (try go_simp); (try with_reducible rfl); done)), _, (by (simp only [Act.put, List.setIfInBounds_toArray, List.set_cons_zero, List.set_cons_succ]; rfl)), ?_⟩
              have f2 := fun o => ((yd.set_ 3 (.bool true)).set_ 5 (.int .i64 x2.k)).frozen o
              have r2 := ((yd.set_ 3 (.bool true)).set_ 5 (.int .i64 x2.k)).cell 7
              simp only [List.setIfInBounds_toArray, List.set_cons_zero, List.set_cons_succ, List.getElem?_toArray, List.getElem?_cons_zero, List.getElem?_cons_succ] at r2
              refine pl_one (by (simp only [List.getElem?_toArray, List.getElem?_cons_succ, List.getElem?_cons_zero]; rfl)) ((hC0.setAt w4.heap.size _ rfl _).setAt w4.heap.size _ rfl _) ?_
              refine al_skip (by kernel_rfl) ⟨_, (by (go_simp; first | done | rfl)), _, (by (simp only [Act.put]; rfl)), ?_⟩
              refine pl_end (((hC0.setAt w4.heap.size _ rfl _).setAt w4.heap.size _ rfl _).setAt w4.heap.size _ rfl _) ?_
              simp only [Plan.count, Nat.reduceAdd, List.drop_succ_cons, List.drop_zero]
              have yC := (((yd.set_ 3 (.bool true)).set_ 5 (.int .i64 x2.k)).set_ 7 (.int .i64 x2.z))
              simp only [List.setIfInBounds_toArray, List.set_cons_zero, List.set_cons_succ] at yC
              have kN : Fr (fun z => z = w4.heap.size) wd (((wd.setCell ⟨w4.heap.size, 3, none⟩ (.bool true)).setCell ⟨w4.heap.size, 5, none⟩ (.int .i64 x2.k)).setCell ⟨w4.heap.size, 7, none⟩ (.int .i64 x2.z)) := ((((Fr.refl (fun z => z = w4.heap.size) wd).setAt w4.heap.size _ rfl _).setAt w4.heap.size _ rfl _).setAt w4.heap.size _ rfl _)
              have hw7u : Below wr.heap.size wr (((wd.setCell ⟨w4.heap.size, 3, none⟩ (.bool true)).setCell ⟨w4.heap.size, 5, none⟩ (.int .i64 x2.k)).setCell ⟨w4.heap.size, 7, none⟩ (.int .i64 x2.z)) := hwd.trans (kN.below (B := wr.heap.size) hwd.size (fun k hk e => by omega))
              clear kN hwd hC0 hzl f0 f1 f2 r0 r1 r2 yd y7 z7
              go_upto_region 18 with (fail)
              generalize (((wd.setCell ⟨w4.heap.size, 3, none⟩ (.bool true)).setCell ⟨w4.heap.size, 5, none⟩ (.int .i64 x2.k)).setCell ⟨w4.heap.size, 7, none⟩ (.int .i64 x2.z)) = wu at *
              obtain ⟨vd, hvd⟩ : ∃ vd, vd = verd false true (b) (x2.k) (0) (x2.z) := ⟨_, rfl⟩
              have HVD := Lib.hid (verdict_any ⟨⟨p⟩⟩ b false true (b) (x2.k) (0) (x2.z) 0 wu)
              rw [← hvd] at HVD
              have HCV : Hid (chgV T mine theirs p = ⟨⟨⟨p⟩⟩, b, false, true, b, x2.k, 0, x2.z, vd⟩) := Lib.hid (by
                unfold chgV
                rw [← HBK.out, HFM.out, HFT.out, hvd]
                rfl)
              have p0 := yC.cell 0
              have p1 := yC.cell 1
              have p2 := yC.cell 2
              have p3 := yC.cell 3
              have p4 := yC.cell 4
              have p5 := yC.cell 5
              have p6 := yC.cell 6
              have p7 := yC.cell 7
              have p8 := yC.cell 8
              simp only [List.getElem?_toArray, List.getElem?_cons_zero, List.getElem?_cons_succ] at p0 p1 p2 p3 p4 p5 p6 p7 p8
              clear hvd HFM HFT
              go_wp2_with fail
              refine HVD.out.mono ?_
              rintro e w8 ⟨rfl, hb8⟩
              have hw8 := hw7u.trans (hb8.mono hw7u.size)
              have y8 := yC.below hb8
              have fr8 := fun o => y8.frozen o
              have ho8 := (hO.below (hw7u)).below hb8
              have k9 : Fr (fun z => z = w4.heap.size) w8 (w8.setCell ⟨w4.heap.size, 8, none⟩ (.int .i64 vd)) := (Fr.refl (fun z => z = w4.heap.size) w8).setAt w4.heap.size _ rfl _
              have y9 := y8.set_ 8 (.int .i64 vd)
              simp only [List.setIfInBounds_toArray, List.set_cons_zero, List.set_cons_succ] at y9
              have ho9 := ho8.fr k9 (fun g hg e => by have := (ho8.lt g hg); have := (hO.lt g hg).2; omega)
              have hw9 : Below wr.heap.size wr (w8.setCell ⟨w4.heap.size, 8, none⟩ (.int .i64 vd)) := hw8.trans (k9.below (B := wr.heap.size) hw8.size (fun k hk e => by omega))
              have q0 := y8.cell 0
              have q1 := y8.cell 1
              have q2 := y8.cell 2
              have q3 := y8.cell 3
              have q4 := y8.cell 4
              have q5 := y8.cell 5
              have q6 := y8.cell 6
              have q7 := y8.cell 7
              have q8 := y8.cell 8
              simp only [List.getElem?_toArray, List.getElem?_cons_zero, List.getElem?_cons_succ] at q0 q1 q2 q3 q4 q5 q6 q7 q8
              clear HVD p0 p1 p2 p3 p4 p5 p6 p7 p8 yC
              go_upto_region 19 with (fail)
              generalize w8.setCell ⟨w4.heap.size, 8, none⟩ (.int .i64 vd) = w9 at *
              clear q0 q1 q2 q3 q4 q5 q6 q7 q8 fr8 k9 y8 ho8
              have q0 := y9.cell 0
              have q1 := y9.cell 1
              have q2 := y9.cell 2
              have q3 := y9.cell 3
              have q4 := y9.cell 4
              have q5 := y9.cell 5
              have q6 := y9.cell 6
              have q7 := y9.cell 7
              have q8 := y9.cell 8
              simp only [List.getElem?_toArray, List.getElem?_cons_zero, List.getElem?_cons_succ] at q0 q1 q2 q3 q4 q5 q6 q7 q8
              have HOA := Lib.hid (ho9.below ((Below.refl _ w9).alloc (Nat.le_refl _) (.cells #[.string ⟨⟨p⟩⟩, .int .i64 b, .bool false, .bool true, .int .i64 b, .int .i64 x2.k, .int .i64 0, .int .i64 x2.z, .int .i64 vd] 62)))
              have HRA : Hid (Rd (w9.alloc (.cells #[.string ⟨⟨p⟩⟩, .int .i64 b, .bool false, .bool true, .int .i64 b, .int .i64 x2.k, .int .i64 0, .int .i64 x2.z, .int .i64 vd] 62)) (fun _ => True) 9 (some ⟨w9.heap.size, 0, none⟩) 1 (CV.cells ⟨⟨⟨p⟩⟩, b, false, true, b, x2.k, 0, x2.z, vd⟩)) := (Rd.lit (w := w9) (t := 62) (size := 9) (n := 1) (xs := CV.cells ⟨⟨⟨p⟩⟩, b, false, true, b, x2.k, 0, x2.z, vd⟩) rfl rfl rfl).mono (fun _ _ _ => trivial)
              have hs9 : w7.heap.size ≤ (w9.alloc (.cells #[.string ⟨⟨p⟩⟩, .int .i64 b, .bool false, .bool true, .int .i64 b, .int .i64 x2.k, .int .i64 0, .int .i64 x2.z, .int .i64 vd] 62)).heap.size := by have := hb.size; have := hw9.size; simp; omega
              have hba9 := hw9.alloc hw9.size (.cells #[.string ⟨⟨p⟩⟩, .int .i64 b, .bool false, .bool true, .int .i64 b, .int .i64 x2.k, .int .i64 0, .int .i64 x2.z, .int .i64 vd] 62)
              clear ho9 y9
              go_wp2_with (at_builtin; refine wpList_append_ch rfl (.tmp 81) (.tmp 83) (t := 56) rfl rfl rfl HOA.out rfl HRA.out (by omega) hs9 ?_; intro A10 c10 w10 hO10 hb10)
              have hbb : Below w7.heap.size w7 w10 := (hb.trans (hba9.mono hb.size)).trans hb10
              have HN := Lib.hid HS.out
              rw [HCV.out] at HN
              go_roundw
              case rel => exact ⟨i + 1, A10, c10, cl ++ [⟨⟨⟨p⟩⟩, b, false, true, b, x2.k, 0, x2.z, vd⟩], hlt, by go_num, by simp, Lib.hid HN.out.symm, by simp; omega, hO10, hbb⟩
              case measure => simp [intOf]; omega
          · have hxz : x1 = z := by rw [hx1.out]; unfold rowF; rw [hfm]; rfl
            subst hxz
            have HFM := Lib.hid hfm
            clear hx1 hfm
            go_upto_region 14 with (fail)
            generalize (w5b.alloc (.cells #[.string x1.p, .int .i64 x1.k, .int .u64 x1.v, .int .u64 x1.s, .int .i64 x1.z] 52)) = wm at *
            have hzl := z5.lt
            have hC0 : Fr (fun x => x = w4.heap.size) wm wm.drew := (Fr.refl _ wm).drew
            refine wp_region_line (.tell 0 (.tell 1 (.tell 2 (.tell 3 (.tell 4 (.one 5 (.tell 6 (.one 7 (.tell 8 (.one 9 .done)))))))))) (fun W => Fr (fun x => x = w4.heap.size) wm W) (by kernel_rfl) (by kernel_rfl) ?_
            refine pl_val (by (simp only [List.getElem?_toArray, List.getElem?_cons_zero]; rfl)) (by kernel_rfl) ⟨_, (by (intro w' hC; clear hC; (try go_simp); (try with_reducible rfl); done)), _, (by (simp only [Act.put, List.setIfInBounds_toArray, List.set_cons_zero, List.set_cons_succ]; rfl)), ?_⟩
            refine pl_val (by (simp only [List.getElem?_toArray, List.getElem?_cons_succ, List.getElem?_cons_zero]; rfl)) (by kernel_rfl) ⟨_, (by (intro w' hC; have tz := (z5.fr hC (by omega)).cell 1; simp only [List.getElem?_toArray, List.getElem?_cons_zero, List.getElem?_cons_succ] at tz; clear hC; (try go_simp); (try with_reducible rfl); done)), _, (by (simp only [Act.put, List.setIfInBounds_toArray, List.set_cons_zero, List.set_cons_succ]; rfl)), ?_⟩
            refine pl_val (by (simp only [List.getElem?_toArray, List.getElem?_cons_succ, List.getElem?_cons_zero]; rfl)) (by kernel_rfl) ⟨_, (by (intro w' hC; clear hC; (try go_simp); (try with_reducible rfl); done)), _, (by (simp only [Act.put, List.setIfInBounds_toArray, List.set_cons_zero, List.set_cons_succ]; rfl)), ?_⟩
            refine pl_val (by (simp only [List.getElem?_toArray, List.getElem?_cons_succ, List.getElem?_cons_zero]; rfl)) (by kernel_rfl) ⟨_, (by (intro w' hC; have tz := (z5.fr hC (by omega)).cell 4; simp only [List.getElem?_toArray, List.getElem?_cons_zero, List.getElem?_cons_succ] at tz; clear hC; (try go_simp); (try with_reducible rfl); done)), _, (by (simp only [Act.put, List.setIfInBounds_toArray, List.set_cons_zero, List.set_cons_succ]; rfl)), ?_⟩
            refine pl_val (by (simp only [List.getElem?_toArray, List.getElem?_cons_succ, List.getElem?_cons_zero]; rfl)) (by kernel_rfl) ⟨_, (by (intro w' hC; clear hC; (try go_simp); (try with_reducible rfl); done)), _, (by (simp only [Act.put, List.setIfInBounds_toArray, List.set_cons_zero, List.set_cons_succ]; rfl)), ?_⟩
            have yd := y5.drew
            have hwd := (hw5c).trans ((Below.refl wm.heap.size wm).drew.mono (hw5c).size)
            generalize wm.drew = wd at *
            have f0 := fun o => yd.frozen o
            have r0 := yd.cell 2
            simp only [List.getElem?_toArray, List.getElem?_cons_zero, List.getElem?_cons_succ] at r0
            refine pl_one (by (simp only [List.getElem?_toArray, List.getElem?_cons_succ, List.getElem?_cons_zero]; rfl)) hC0 ?_
            refine al_skip (by kernel_rfl) ⟨_, (by (go_simp; first | done | rfl)), _, (by (simp only [Act.put]; rfl)), ?_⟩
            refine pl_val (by (simp only [List.getElem?_toArray, List.getElem?_cons_succ, List.getElem?_cons_zero]; rfl)) (by kernel_rfl) ⟨_, (by (intro w' hC; clear hC; (try go_simp); (try with_reducible rfl); done)), _, (by (simp only [Act.put, List.setIfInBounds_toArray, List.set_cons_zero, List.set_cons_succ]; rfl)), ?_⟩
            have f1 := fun o => (yd.set_ 2 (.bool true)).frozen o
            have r1 := (yd.set_ 2 (.bool true)).cell 4
            simp only [List.setIfInBounds_toArray, List.set_cons_zero, List.set_cons_succ, List.getElem?_toArray, List.getElem?_cons_zero, List.getElem?_cons_succ] at r1
            refine pl_one (by (simp only [List.getElem?_toArray, List.getElem?_cons_succ, List.getElem?_cons_zero]; rfl)) (hC0.setAt w4.heap.size _ rfl _) ?_
            refine al_skip (by kernel_rfl) ⟨_, (by (go_simp; first | done | rfl)), _, (by (simp only [Act.put]; rfl)), ?_⟩
            refine pl_val (by (simp only [List.getElem?_toArray, List.getElem?_cons_succ, List.getElem?_cons_zero]; rfl)) (by kernel_rfl) ⟨_, (by (intro w' hC; clear hC; (try go_simp); (try with_reducible rfl); done)), _, (by (simp only [Act.put, List.setIfInBounds_toArray, List.set_cons_zero, List.set_cons_succ]; rfl)), ?_⟩
            have f2 := fun o => ((yd.set_ 2 (.bool true)).set_ 4 (.int .i64 x1.k)).frozen o
            have r2 := ((yd.set_ 2 (.bool true)).set_ 4 (.int .i64 x1.k)).cell 6
            simp only [List.setIfInBounds_toArray, List.set_cons_zero, List.set_cons_succ, List.getElem?_toArray, List.getElem?_cons_zero, List.getElem?_cons_succ] at r2
            refine pl_one (by (simp only [List.getElem?_toArray, List.getElem?_cons_succ, List.getElem?_cons_zero]; rfl)) ((hC0.setAt w4.heap.size _ rfl _).setAt w4.heap.size _ rfl _) ?_
            refine al_skip (by kernel_rfl) ⟨_, (by (go_simp; first | done | rfl)), _, (by (simp only [Act.put]; rfl)), ?_⟩
            refine pl_end (((hC0.setAt w4.heap.size _ rfl _).setAt w4.heap.size _ rfl _).setAt w4.heap.size _ rfl _) ?_
            simp only [Plan.count, Nat.reduceAdd, List.drop_succ_cons, List.drop_zero]
            have yA := (((yd.set_ 2 (.bool true)).set_ 4 (.int .i64 x1.k)).set_ 6 (.int .i64 x1.z))
            simp only [List.setIfInBounds_toArray, List.set_cons_zero, List.set_cons_succ] at yA
            have kN : Fr (fun z => z = w4.heap.size) wd (((wd.setCell ⟨w4.heap.size, 2, none⟩ (.bool true)).setCell ⟨w4.heap.size, 4, none⟩ (.int .i64 x1.k)).setCell ⟨w4.heap.size, 6, none⟩ (.int .i64 x1.z)) := ((((Fr.refl (fun z => z = w4.heap.size) wd).setAt w4.heap.size _ rfl _).setAt w4.heap.size _ rfl _).setAt w4.heap.size _ rfl _)
            have hw5n : Below wr.heap.size wr (((wd.setCell ⟨w4.heap.size, 2, none⟩ (.bool true)).setCell ⟨w4.heap.size, 4, none⟩ (.int .i64 x1.k)).setCell ⟨w4.heap.size, 6, none⟩ (.int .i64 x1.z)) := hwd.trans (kN.below (B := wr.heap.size) hwd.size (fun k hk e => by omega))
            clear kN hwd hC0 hzl f0 f1 f2 r0 r1 r2 yd y5 z5
            go_upto_region 15 with (fail)
            generalize (((wd.setCell ⟨w4.heap.size, 2, none⟩ (.bool true)).setCell ⟨w4.heap.size, 4, none⟩ (.int .i64 x1.k)).setCell ⟨w4.heap.size, 6, none⟩ (.int .i64 x1.z)) = wn at *
            have HF2 := Lib.hid (scanFind_any D d theirs ⟨⟨p⟩⟩ wn (HT.out.below (hwr.trans ((hw5n).mono hwr.size))))
            go_wp2_with fail
            refine HF2.out.mono ?_
            rintro e w6 ⟨⟨x2, rfl, hx2⟩, hb6⟩
            have hw6 := (hw5n).trans (hb6.mono (hw5n).size)
            have y6 := yA.below hb6
            have z7 := Blk.new w6 52 #[.string x2.p, .int .i64 x2.k, .int .u64 x2.v, .int .u64 x2.s, .int .i64 x2.z]
            have hba7 : Below w6.heap.size w6 (w6.alloc (.cells #[.string x2.p, .int .i64 x2.k, .int .u64 x2.v, .int .u64 x2.s, .int .i64 x2.z] 52)) := (Below.refl _ _).alloc (Nat.le_refl _) _
            have y7 := y6.below hba7
            have hw7' := hw6.trans (hba7.mono hw6.size)
            have y7l := y6.lt
            clear HF2 hb6 y6 yA
            rcases hft : findRv ⟨⟨p⟩⟩ theirs with _ | z
            · have HFT := Lib.hid hft
              clear hft hx2 z7
              go_upto_region 16 with (fail)
              generalize (w6.alloc (.cells #[.string x2.p, .int .i64 x2.k, .int .u64 x2.v, .int .u64 x2.s, .int .i64 x2.z] 52)) = wt at *
              clear hba7
              have yC := y7
              clear y7
              obtain ⟨vd, hvd⟩ : ∃ vd, vd = verd true false (x1.k) (b) (x1.z) (0) := ⟨_, rfl⟩
              have HVD := Lib.hid (verdict_any ⟨⟨p⟩⟩ b true false (x1.k) (b) (x1.z) (0) 0 wt)
              rw [← hvd] at HVD
              have HCV : Hid (chgV T mine theirs p = ⟨⟨⟨p⟩⟩, b, true, false, x1.k, b, x1.z, 0, vd⟩) := Lib.hid (by
                unfold chgV
                rw [← HBK.out, HFM.out, HFT.out, hvd]
                rfl)
              have p0 := yC.cell 0
              have p1 := yC.cell 1
              have p2 := yC.cell 2
              have p3 := yC.cell 3
              have p4 := yC.cell 4
              have p5 := yC.cell 5
              have p6 := yC.cell 6
              have p7 := yC.cell 7
              have p8 := yC.cell 8
              simp only [List.getElem?_toArray, List.getElem?_cons_zero, List.getElem?_cons_succ] at p0 p1 p2 p3 p4 p5 p6 p7 p8
              clear hvd HFM HFT
              go_wp2_with fail
              refine HVD.out.mono ?_
              rintro e w8 ⟨rfl, hb8⟩
              have hw8 := hw7'.trans (hb8.mono hw7'.size)
              have y8 := yC.below hb8
              have fr8 := fun o => y8.frozen o
              have ho8 := (hO.below (hw7')).below hb8
              have k9 : Fr (fun z => z = w4.heap.size) w8 (w8.setCell ⟨w4.heap.size, 8, none⟩ (.int .i64 vd)) := (Fr.refl (fun z => z = w4.heap.size) w8).setAt w4.heap.size _ rfl _
              have y9 := y8.set_ 8 (.int .i64 vd)
              simp only [List.setIfInBounds_toArray, List.set_cons_zero, List.set_cons_succ] at y9
              have ho9 := ho8.fr k9 (fun g hg e => by have := (ho8.lt g hg); have := (hO.lt g hg).2; omega)
              have hw9 : Below wr.heap.size wr (w8.setCell ⟨w4.heap.size, 8, none⟩ (.int .i64 vd)) := hw8.trans (k9.below (B := wr.heap.size) hw8.size (fun k hk e => by omega))
              have q0 := y8.cell 0
              have q1 := y8.cell 1
              have q2 := y8.cell 2
              have q3 := y8.cell 3
              have q4 := y8.cell 4
              have q5 := y8.cell 5
              have q6 := y8.cell 6
              have q7 := y8.cell 7
              have q8 := y8.cell 8
              simp only [List.getElem?_toArray, List.getElem?_cons_zero, List.getElem?_cons_succ] at q0 q1 q2 q3 q4 q5 q6 q7 q8
              clear HVD p0 p1 p2 p3 p4 p5 p6 p7 p8 yC
              go_upto_region 19 with (fail)
              generalize w8.setCell ⟨w4.heap.size, 8, none⟩ (.int .i64 vd) = w9 at *
              clear q0 q1 q2 q3 q4 q5 q6 q7 q8 fr8 k9 y8 ho8
              have q0 := y9.cell 0
              have q1 := y9.cell 1
              have q2 := y9.cell 2
              have q3 := y9.cell 3
              have q4 := y9.cell 4
              have q5 := y9.cell 5
              have q6 := y9.cell 6
              have q7 := y9.cell 7
              have q8 := y9.cell 8
              simp only [List.getElem?_toArray, List.getElem?_cons_zero, List.getElem?_cons_succ] at q0 q1 q2 q3 q4 q5 q6 q7 q8
              have HOA := Lib.hid (ho9.below ((Below.refl _ w9).alloc (Nat.le_refl _) (.cells #[.string ⟨⟨p⟩⟩, .int .i64 b, .bool true, .bool false, .int .i64 x1.k, .int .i64 b, .int .i64 x1.z, .int .i64 0, .int .i64 vd] 62)))
              have HRA : Hid (Rd (w9.alloc (.cells #[.string ⟨⟨p⟩⟩, .int .i64 b, .bool true, .bool false, .int .i64 x1.k, .int .i64 b, .int .i64 x1.z, .int .i64 0, .int .i64 vd] 62)) (fun _ => True) 9 (some ⟨w9.heap.size, 0, none⟩) 1 (CV.cells ⟨⟨⟨p⟩⟩, b, true, false, x1.k, b, x1.z, 0, vd⟩)) := (Rd.lit (w := w9) (t := 62) (size := 9) (n := 1) (xs := CV.cells ⟨⟨⟨p⟩⟩, b, true, false, x1.k, b, x1.z, 0, vd⟩) rfl rfl rfl).mono (fun _ _ _ => trivial)
              have hs9 : w7.heap.size ≤ (w9.alloc (.cells #[.string ⟨⟨p⟩⟩, .int .i64 b, .bool true, .bool false, .int .i64 x1.k, .int .i64 b, .int .i64 x1.z, .int .i64 0, .int .i64 vd] 62)).heap.size := by have := hb.size; have := hw9.size; simp; omega
              have hba9 := hw9.alloc hw9.size (.cells #[.string ⟨⟨p⟩⟩, .int .i64 b, .bool true, .bool false, .int .i64 x1.k, .int .i64 b, .int .i64 x1.z, .int .i64 0, .int .i64 vd] 62)
              clear ho9 y9
              go_wp2_with (at_builtin; refine wpList_append_ch rfl (.tmp 81) (.tmp 83) (t := 56) rfl rfl rfl HOA.out rfl HRA.out (by omega) hs9 ?_; intro A10 c10 w10 hO10 hb10)
              have hbb : Below w7.heap.size w7 w10 := (hb.trans (hba9.mono hb.size)).trans hb10
              have HN := Lib.hid HS.out
              rw [HCV.out] at HN
              go_roundw
              case rel => exact ⟨i + 1, A10, c10, cl ++ [⟨⟨⟨p⟩⟩, b, true, false, x1.k, b, x1.z, 0, vd⟩], hlt, by go_num, by simp, Lib.hid HN.out.symm, by simp; omega, hO10, hbb⟩
              case measure => simp [intOf]; omega
            · have hxz : x2 = z := by rw [hx2.out]; unfold rowF; rw [hft]; rfl
              subst hxz
              have HFT := Lib.hid hft
              clear hft hx2
              go_upto_region 17 with (fail)
              generalize (w6.alloc (.cells #[.string x2.p, .int .i64 x2.k, .int .u64 x2.v, .int .u64 x2.s, .int .i64 x2.z] 52)) = wt at *
              clear hba7
              have hzl := z7.lt
              have hC0 : Fr (fun x => x = w4.heap.size) wt wt.drew := (Fr.refl _ wt).drew
              refine wp_region_line (.tell 0 (.tell 1 (.tell 2 (.tell 3 (.tell 4 (.one 5 (.tell 6 (.one 7 (.tell 8 (.one 9 .done)))))))))) (fun W => Fr (fun x => x = w4.heap.size) wt W) (by kernel_rfl) (by kernel_rfl) ?_
              refine pl_val (by (simp only [List.getElem?_toArray, List.getElem?_cons_zero]; rfl)) (by kernel_rfl) ⟨_, (by (intro w' hC; clear hC; (try go_simp); (try with_reducible rfl); done)), _, (by (simp only [Act.put, List.setIfInBounds_toArray, List.set_cons_zero, List.set_cons_succ]; rfl)), ?_⟩
              refine pl_val (by (simp only [List.getElem?_toArray, List.getElem?_cons_succ, List.getElem?_cons_zero]; rfl)) (by kernel_rfl) ⟨_, (by (intro w' hC; have tz := (z7.fr hC (by omega)).cell 1; simp only [List.getElem?_toArray, List.getElem?_cons_zero, List.getElem?_cons_succ] at tz; clear hC; (try go_simp); (try with_reducible rfl); done)), _, (by (simp only [Act.put, List.setIfInBounds_toArray, List.set_cons_zero, List.set_cons_succ]; rfl)), ?_⟩
              refine pl_val (by (simp only [List.getElem?_toArray, List.getElem?_cons_succ, List.getElem?_cons_zero]; rfl)) (by kernel_rfl) ⟨_, (by (intro w' hC; clear hC; (try go_simp); (try with_reducible rfl); done)), _, (by (simp only [Act.put, List.setIfInBounds_toArray, List.set_cons_zero, List.set_cons_succ]; rfl)), ?_⟩
              refine pl_val (by (simp only [List.getElem?_toArray, List.getElem?_cons_succ, List.getElem?_cons_zero]; rfl)) (by kernel_rfl) ⟨_, (by (intro w' hC; have tz := (z7.fr hC (by omega)).cell 4; simp only [List.getElem?_toArray, List.getElem?_cons_zero, List.getElem?_cons_succ] at tz; clear hC; (try go_simp); (try with_reducible rfl); done)), _, (by (simp only [Act.put, List.setIfInBounds_toArray, List.set_cons_zero, List.set_cons_succ]; rfl)), ?_⟩
              refine pl_val (by (simp only [List.getElem?_toArray, List.getElem?_cons_succ, List.getElem?_cons_zero]; rfl)) (by kernel_rfl) ⟨_, (by (intro w' hC; clear hC; (try go_simp); (try with_reducible rfl); done)), _, (by (simp only [Act.put, List.setIfInBounds_toArray, List.set_cons_zero, List.set_cons_succ]; rfl)), ?_⟩
              have yd := y7.drew
              have hwd := (hw7').trans ((Below.refl wt.heap.size wt).drew.mono (hw7').size)
              generalize wt.drew = wd at *
              have f0 := fun o => yd.frozen o
              have r0 := yd.cell 3
              simp only [List.getElem?_toArray, List.getElem?_cons_zero, List.getElem?_cons_succ] at r0
              refine pl_one (by (simp only [List.getElem?_toArray, List.getElem?_cons_succ, List.getElem?_cons_zero]; rfl)) hC0 ?_
              refine al_skip (by kernel_rfl) ⟨_, (by (go_simp; first | done | rfl)), _, (by (simp only [Act.put]; rfl)), ?_⟩
              refine pl_val (by (simp only [List.getElem?_toArray, List.getElem?_cons_succ, List.getElem?_cons_zero]; rfl)) (by kernel_rfl) ⟨_, (by (intro w' hC; clear hC; (try go_simp); (try with_reducible rfl); done)), _, (by (simp only [Act.put, List.setIfInBounds_toArray, List.set_cons_zero, List.set_cons_succ]; rfl)), ?_⟩
              have f1 := fun o => (yd.set_ 3 (.bool true)).frozen o
              have r1 := (yd.set_ 3 (.bool true)).cell 5
              simp only [List.setIfInBounds_toArray, List.set_cons_zero, List.set_cons_succ, List.getElem?_toArray, List.getElem?_cons_zero, List.getElem?_cons_succ] at r1
              refine pl_one (by (simp only [List.getElem?_toArray, List.getElem?_cons_succ, List.getElem?_cons_zero]; rfl)) (hC0.setAt w4.heap.size _ rfl _) ?_
              refine al_skip (by kernel_rfl) ⟨_, (by (go_simp; first | done | rfl)), _, (by (simp only [Act.put]; rfl)), ?_⟩
              refine pl_val (by (simp only [List.getElem?_toArray, List.getElem?_cons_succ, List.getElem?_cons_zero]; rfl)) (by kernel_rfl) ⟨_, (by (intro w' hC; clear hC; (try go_simp); (try with_reducible rfl); done)), _, (by (simp only [Act.put, List.setIfInBounds_toArray, List.set_cons_zero, List.set_cons_succ]; rfl)), ?_⟩
              have f2 := fun o => ((yd.set_ 3 (.bool true)).set_ 5 (.int .i64 x2.k)).frozen o
              have r2 := ((yd.set_ 3 (.bool true)).set_ 5 (.int .i64 x2.k)).cell 7
              simp only [List.setIfInBounds_toArray, List.set_cons_zero, List.set_cons_succ, List.getElem?_toArray, List.getElem?_cons_zero, List.getElem?_cons_succ] at r2
              refine pl_one (by (simp only [List.getElem?_toArray, List.getElem?_cons_succ, List.getElem?_cons_zero]; rfl)) ((hC0.setAt w4.heap.size _ rfl _).setAt w4.heap.size _ rfl _) ?_
              refine al_skip (by kernel_rfl) ⟨_, (by (go_simp; first | done | rfl)), _, (by (simp only [Act.put]; rfl)), ?_⟩
              refine pl_end (((hC0.setAt w4.heap.size _ rfl _).setAt w4.heap.size _ rfl _).setAt w4.heap.size _ rfl _) ?_
              simp only [Plan.count, Nat.reduceAdd, List.drop_succ_cons, List.drop_zero]
              have yC := (((yd.set_ 3 (.bool true)).set_ 5 (.int .i64 x2.k)).set_ 7 (.int .i64 x2.z))
              simp only [List.setIfInBounds_toArray, List.set_cons_zero, List.set_cons_succ] at yC
              have kN : Fr (fun z => z = w4.heap.size) wd (((wd.setCell ⟨w4.heap.size, 3, none⟩ (.bool true)).setCell ⟨w4.heap.size, 5, none⟩ (.int .i64 x2.k)).setCell ⟨w4.heap.size, 7, none⟩ (.int .i64 x2.z)) := ((((Fr.refl (fun z => z = w4.heap.size) wd).setAt w4.heap.size _ rfl _).setAt w4.heap.size _ rfl _).setAt w4.heap.size _ rfl _)
              have hw7u : Below wr.heap.size wr (((wd.setCell ⟨w4.heap.size, 3, none⟩ (.bool true)).setCell ⟨w4.heap.size, 5, none⟩ (.int .i64 x2.k)).setCell ⟨w4.heap.size, 7, none⟩ (.int .i64 x2.z)) := hwd.trans (kN.below (B := wr.heap.size) hwd.size (fun k hk e => by omega))
              clear kN hwd hC0 hzl f0 f1 f2 r0 r1 r2 yd y7 z7
              go_upto_region 18 with (fail)
              generalize (((wd.setCell ⟨w4.heap.size, 3, none⟩ (.bool true)).setCell ⟨w4.heap.size, 5, none⟩ (.int .i64 x2.k)).setCell ⟨w4.heap.size, 7, none⟩ (.int .i64 x2.z)) = wu at *
              obtain ⟨vd, hvd⟩ : ∃ vd, vd = verd true true (x1.k) (x2.k) (x1.z) (x2.z) := ⟨_, rfl⟩
              have HVD := Lib.hid (verdict_any ⟨⟨p⟩⟩ b true true (x1.k) (x2.k) (x1.z) (x2.z) 0 wu)
              rw [← hvd] at HVD
              have HCV : Hid (chgV T mine theirs p = ⟨⟨⟨p⟩⟩, b, true, true, x1.k, x2.k, x1.z, x2.z, vd⟩) := Lib.hid (by
                unfold chgV
                rw [← HBK.out, HFM.out, HFT.out, hvd]
                rfl)
              have p0 := yC.cell 0
              have p1 := yC.cell 1
              have p2 := yC.cell 2
              have p3 := yC.cell 3
              have p4 := yC.cell 4
              have p5 := yC.cell 5
              have p6 := yC.cell 6
              have p7 := yC.cell 7
              have p8 := yC.cell 8
              simp only [List.getElem?_toArray, List.getElem?_cons_zero, List.getElem?_cons_succ] at p0 p1 p2 p3 p4 p5 p6 p7 p8
              clear hvd HFM HFT
              go_wp2_with fail
              refine HVD.out.mono ?_
              rintro e w8 ⟨rfl, hb8⟩
              have hw8 := hw7u.trans (hb8.mono hw7u.size)
              have y8 := yC.below hb8
              have fr8 := fun o => y8.frozen o
              have ho8 := (hO.below (hw7u)).below hb8
              have k9 : Fr (fun z => z = w4.heap.size) w8 (w8.setCell ⟨w4.heap.size, 8, none⟩ (.int .i64 vd)) := (Fr.refl (fun z => z = w4.heap.size) w8).setAt w4.heap.size _ rfl _
              have y9 := y8.set_ 8 (.int .i64 vd)
              simp only [List.setIfInBounds_toArray, List.set_cons_zero, List.set_cons_succ] at y9
              have ho9 := ho8.fr k9 (fun g hg e => by have := (ho8.lt g hg); have := (hO.lt g hg).2; omega)
              have hw9 : Below wr.heap.size wr (w8.setCell ⟨w4.heap.size, 8, none⟩ (.int .i64 vd)) := hw8.trans (k9.below (B := wr.heap.size) hw8.size (fun k hk e => by omega))
              have q0 := y8.cell 0
              have q1 := y8.cell 1
              have q2 := y8.cell 2
              have q3 := y8.cell 3
              have q4 := y8.cell 4
              have q5 := y8.cell 5
              have q6 := y8.cell 6
              have q7 := y8.cell 7
              have q8 := y8.cell 8
              simp only [List.getElem?_toArray, List.getElem?_cons_zero, List.getElem?_cons_succ] at q0 q1 q2 q3 q4 q5 q6 q7 q8
              clear HVD p0 p1 p2 p3 p4 p5 p6 p7 p8 yC
              go_upto_region 19 with (fail)
              generalize w8.setCell ⟨w4.heap.size, 8, none⟩ (.int .i64 vd) = w9 at *
              clear q0 q1 q2 q3 q4 q5 q6 q7 q8 fr8 k9 y8 ho8
              have q0 := y9.cell 0
              have q1 := y9.cell 1
              have q2 := y9.cell 2
              have q3 := y9.cell 3
              have q4 := y9.cell 4
              have q5 := y9.cell 5
              have q6 := y9.cell 6
              have q7 := y9.cell 7
              have q8 := y9.cell 8
              simp only [List.getElem?_toArray, List.getElem?_cons_zero, List.getElem?_cons_succ] at q0 q1 q2 q3 q4 q5 q6 q7 q8
              have HOA := Lib.hid (ho9.below ((Below.refl _ w9).alloc (Nat.le_refl _) (.cells #[.string ⟨⟨p⟩⟩, .int .i64 b, .bool true, .bool true, .int .i64 x1.k, .int .i64 x2.k, .int .i64 x1.z, .int .i64 x2.z, .int .i64 vd] 62)))
              have HRA : Hid (Rd (w9.alloc (.cells #[.string ⟨⟨p⟩⟩, .int .i64 b, .bool true, .bool true, .int .i64 x1.k, .int .i64 x2.k, .int .i64 x1.z, .int .i64 x2.z, .int .i64 vd] 62)) (fun _ => True) 9 (some ⟨w9.heap.size, 0, none⟩) 1 (CV.cells ⟨⟨⟨p⟩⟩, b, true, true, x1.k, x2.k, x1.z, x2.z, vd⟩)) := (Rd.lit (w := w9) (t := 62) (size := 9) (n := 1) (xs := CV.cells ⟨⟨⟨p⟩⟩, b, true, true, x1.k, x2.k, x1.z, x2.z, vd⟩) rfl rfl rfl).mono (fun _ _ _ => trivial)
              have hs9 : w7.heap.size ≤ (w9.alloc (.cells #[.string ⟨⟨p⟩⟩, .int .i64 b, .bool true, .bool true, .int .i64 x1.k, .int .i64 x2.k, .int .i64 x1.z, .int .i64 x2.z, .int .i64 vd] 62)).heap.size := by have := hb.size; have := hw9.size; simp; omega
              have hba9 := hw9.alloc hw9.size (.cells #[.string ⟨⟨p⟩⟩, .int .i64 b, .bool true, .bool true, .int .i64 x1.k, .int .i64 x2.k, .int .i64 x1.z, .int .i64 x2.z, .int .i64 vd] 62)
              clear ho9 y9
              go_wp2_with (at_builtin; refine wpList_append_ch rfl (.tmp 81) (.tmp 83) (t := 56) rfl rfl rfl HOA.out rfl HRA.out (by omega) hs9 ?_; intro A10 c10 w10 hO10 hb10)
              have hbb : Below w7.heap.size w7 w10 := (hb.trans (hba9.mono hb.size)).trans hb10
              have HN := Lib.hid HS.out
              rw [HCV.out] at HN
              go_roundw
              case rel => exact ⟨i + 1, A10, c10, cl ++ [⟨⟨⟨p⟩⟩, b, true, true, x1.k, x2.k, x1.z, x2.z, vd⟩], hlt, by go_num, by simp, Lib.hid HN.out.symm, by simp; omega, hO10, hbb⟩
              case measure => simp [intOf]; omega
        · have e : i = P.length := by omega
          subst e
          have HF : Hid (cl = G) := Lib.hid (by rw [hcl.out, List.take_length, HG.out])
          clear hcl
          go_wp2_with fail
          go_ret
          exact ⟨⟨A, c', cl, rfl, HF.out, ⟨hO.1, hO.2, hO.3, hO.4, fun a ha => by
            obtain ⟨g, off, cur, e1, h2, h3⟩ := hO.5 a ha
            exact ⟨g, off, cur, e1, Nat.le_trans hw7.size h2, h3⟩⟩⟩, hwr⟩

end Go.Proofs.Ytdnljmncdbcgeaa

/- book: Older. -/
namespace Go.Proofs.Ytdnljmncdbcgeaa
open Go.RowKit Go.Maps

theorem str_infoB : (Try.prog.info? 9).map (fun i => (i.zero, i.size, i.bytes)) = some (some (.string ⟨#[]⟩), 1, 16) := by kernel_rfl
/-- append of one text -/
theorem wpList_append_one {w : World} {ops : Array Oper} {rest : List Oper} {o : Oper} {a : Act} {Q : Exit → Act → World → Prop} (hgd : o.guard = none) (s x : Operand) {t : TypeId} (hu : Try.prog.underlying t = some (.slice 9))
    (ho : o.op = .call { callee := .builtin .append, args := #[s, x], argTypes := #[t, t] })
    {base : Nat} {A : Option Addr} {c : Nat} {L : List (List UInt8)} {y : List UInt8} {g : Nat} (hs : a.eval s = .slice A L.length c) (hown : w.ownsRow base 9 1 (.slice A L.length c) L.length (L.map stv)) (hx : a.eval x = .slice (some ⟨g, 0, none⟩) 1 1) (hr : Rd w (fun _ => True) 1 (some ⟨g, 0, none⟩) 1 [stv y])
    (hsum : L.length + 1 ≤ 1099511627776) (hbase : base ≤ w.heap.size)
    (h : ∀ (A' : Option Addr) (c' : Nat) (w' : World), w'.ownsRow base 9 1 (.slice A' (L ++ [y]).length c') (L ++ [y]).length ((L ++ [y]).map stv) → w.grownBy w' (Value.slice A L.length c).ownBlock → wpList Try.prog ops Q rest (a.put o.dst (.slice A' (L.length + 1) c')) w') : wpList Try.prog ops Q (o :: rest) a w := by
  obtain ⟨i0, hi0, hz0, hz1, hz2⟩ := info_parts str_infoB
  refine wpList_append_any w hgd s x _ ho base 9 i0 _ 1 16 hu hi0 hz0 hz1 hz2 rfl (by omega) (.slice A L.length c) L.length (L.map stv) hs hown _ _ 1 1 [stv y] hx hr (fun u hu => by rw [List.mem_singleton.1 hu]; rfl) (by simp only [maxLen]; omega) (by omega) hbase ?_
  intro v' w' h1 h2 h3
  obtain ⟨A', c', rfl, _⟩ := own_form h1
  refine h A' c' w' ?_ h2
  rw [List.length_append, List.map_append]
  exact h1
theorem ver_got {L : List (List UInt8 × EV)} {p : List UInt8} {o : EV} (h : o = (getR L p).getD noE) : o.v = verP (plainB L) p := by
  rw [h]
  unfold verP
  rw [get_plainB]
  rcases getR L p with _ | o <;> rfl
theorem filt_snoc (seen : List (List UInt8)) (p : List UInt8) (f : List UInt8 → Bool) : (seen ++ [p]).filter f = if f p = true then seen.filter f ++ [p] else seen.filter f := by
  rw [List.filter_append]
  by_cases h : f p = true
  · rw [if_pos h, List.filter_cons, if_pos h]; rfl
  · rw [if_neg h, List.filter_cons, if_neg h]; simp
/-- what Older tells: two rows of texts -/
def OldOwn (w : World) (base : Nat) (e : Ending) (l m : List (List UInt8)) : Prop :=
  ∃ (A B : Option Addr) (c d : Nat) (l' m' : List (List UInt8)), e = .returned (.tuple #[.slice A l'.length c, .slice B m'.length d]) ∧ Hid (l' = l) ∧ Hid (m' = m) ∧ w.ownsRow base 9 1 (.slice A l'.length c) l'.length (l'.map stv) ∧ w.ownsRow base 9 1 (.slice B m'.length d) m'.length (m'.map stv)

set_option maxRecDepth 100000 in
set_option maxHeartbeats 4000000 in
theorem bookOlder_any (bb : Nat) (mo : Option Nat) (L : List (List UInt8 × EV)) (s : Int) (A : Option Addr) (c : Nat) (l : List RV) (w : World) (h : BookAt w bb mo L s) (hr : RwR w A l) :
    Calls Try.prog 29 #[.pointer (some ⟨bb, 0, none⟩), .slice A l.length c] w fun e w' => OldOwn w' w.heap.size e (fetchS (plainB L) (l.map RV.pv)) (giveS (plainB L) (l.map RV.pv)) ∧ Below w.heap.size w w' := by
  have HB := Lib.hid h
  have HR := Lib.hid hr
  have hll := hr.len
  have hw0 : Below w.heap.size w (w.alloc (.map #[] 0)) := (by repeat (first | exact Below.refl _ _ | refine Below.alloc ?_ (by simp) _ | refine Below.setCell ?_ (by simp) _ | refine Below.drew ?_))
  have hm0 : MapAt (w.alloc (.map #[] 0)) Try.prog 9 w.heap.size (mapI []) := MapAt.made w Try.prog 9
  obtain ⟨R, hRR⟩ : ∃ R, R = l.map RV.pv := ⟨_, rfl⟩
  have hRl : R.length = l.length := by rw [hRR]; simp
  have HRR := Lib.hid hRR
  obtain ⟨F, hF⟩ : ∃ F, F = fetchS (plainB L) (l.map RV.pv) := ⟨_, rfl⟩
  obtain ⟨G, hG⟩ : ∃ G, G = giveS (plainB L) (l.map RV.pv) := ⟨_, rfl⟩
  rw [← hF, ← hG]
  rw [← hRR] at hF hG
  have HF := Lib.hid hF
  have HG := Lib.hid hG
  have hmm := @run_makeMap Try.prog
  obtain ⟨mb, hmb⟩ : ∃ mb, mb = w.heap.size := ⟨_, rfl⟩
  rw [← hmb] at hm0
  clear h hr hF hG hRR
  go_enter Try.func29, Try.ntmps29
  go_upto_region 2 with (fail)
  clear hmm
  generalize w.alloc (.map #[] 0) = w1 at *
  rw [← hmb]
  have HM0 := Lib.hid hm0
  have hs1 := hw0.size
  have hml := hm0.lt
  have hmw : w.heap.size ≤ mb := by omega
  clear hm0 hmb
  go_wp2_with fail
  go_loopw [20] (fun iv wr => ∃ i : Nat, i ≤ l.length ∧ iv = .int .i64 (i : Int) ∧ MapAt wr Try.prog 9 mb (mapI (theirsS (R.take i))) ∧ Below w.heap.size w wr) (fun iv _ => l.length - (intOf iv).toNat)
  case atStart => exact ⟨0, Nat.zero_le _, rfl, HM0.out, hw0⟩
  case round =>
    clear HM0
    obtain ⟨i, hi, rfl, hm, hb⟩ := hrel
    by_cases hlt : i < l.length
    · obtain ⟨b, off, hA, hbb, c0, c1, c2, c3, c4⟩ := (HR.out.below hb).at_ hlt
      have hxo := HR.out.ok _ (List.getElem_mem hlt)
      have hs : theirsS (R.take (i + 1)) = putR (theirsS (R.take i)) (tl l[i].p) (max ((getR (theirsS (R.take i)) (tl l[i].p)).getD 0) l[i].v) := by
        have : R.take (i + 1) = R.take i ++ [l[i].pv] := by rw [HRR.out, ← List.map_take, ← List.map_take, pv_snoc l i hlt]
        rw [this, theirsS_snoc]
        rfl
      obtain ⟨x, hx⟩ : ∃ x, x = l[i] := ⟨_, rfl⟩
      rw [← hx] at c0 c1 c2 c3 c4 hs hxo
      have hTl : (theirsS (R.take i)).length ≤ 1000000 := by
        have := theirs_len (R.take i)
        rw [List.length_take] at this
        omega
      obtain ⟨T, hT⟩ : ∃ T, T = theirsS (R.take i) := ⟨_, rfl⟩
      rw [← hT] at hm hs hTl
      have hba : Below wr.heap.size wr (wr.alloc (.cells #[.string x.p, .int .i64 x.k, .int .u64 x.v, .int .u64 x.s, .int .i64 x.z] 52)) := (Below.refl _ _).alloc (Nat.le_refl _) _
      have z2 := Blk.new wr 52 #[.string x.p, .int .i64 x.k, .int .u64 x.v, .int .u64 x.s, .int .i64 x.z]
      have hm2 := hm.below hba
      have hw2 := hb.trans (hba.mono hb.size)
      have hxs : (tl x.p).length ≤ 1048576 := by rw [tl_len]; omega
      subst hA
      clear hx hT hm
      go_upto_region 5 with (fail)
      generalize wr.alloc (.cells #[.string x.p, .int .i64 x.k, .int .u64 x.v, .int .u64 x.s, .int .i64 x.z] 52) = w2 at *
      have q0 := z2.cell 0
      have q1 := z2.cell 1
      have q2 := z2.cell 2
      have q3 := z2.cell 3
      have q4 := z2.cell 4
      simp only [List.getElem?_toArray, List.getElem?_cons_zero, List.getElem?_cons_succ] at q0 q1 q2 q3 q4
      have hlk := look_mapI hm2 (tl x.p) (by simp only [maxLen]; omega)
      obtain ⟨u, hu⟩ : ∃ u, u = (getR T (tl x.p)).getD 0 := ⟨_, rfl⟩
      rw [← hu] at hlk hs
      obtain ⟨w3, hrun3, hm3, hg3, _⟩ := hm2.store Try.underlying9 (t := 127) (e := 23) Try.underlying127 (tl x.p) (by simp only [maxLen]; omega) (.int .u64 (max u x.v)) (by simp only [mapI, List.length_map, maxLen]; omega)
      rw [← mapI_put, ← hs] at hm3
      have hw3 := hw2.trans (grown_below (B := w.heap.size) hg3 hw2.size (fun g e => by injection e with e; omega))
      have HM3 := Lib.hid hm3
      clear hba c0 c1 c2 c3 c4 hs hu hm2 hm3
      go_wp2_with fail
      go_roundw
      case rel => exact ⟨i + 1, hlt, by go_num, HM3.out, hw3⟩
      case measure => simp [intOf]; omega
    · have e : i = l.length := by omega
      subst e
      rw [show R.take l.length = R by rw [← hRl, List.take_length]] at hm
      clear hlt hi
      obtain ⟨w4, hw4e⟩ : ∃ w4, w4 = wr := ⟨_, rfl⟩
      rw [← hw4e] at hm hb
      have hTs := theirs_sort R
      have hTg := theirs_get R
      have hTm := theirs_mem R
      have hTl : (theirsS R).length ≤ 1000000 := by have := theirs_len R; omega
      obtain ⟨T, hT⟩ : ∃ T, T = theirsS R := ⟨_, rfl⟩
      rw [← hT] at hm hTs hTl
      have HTS := Lib.hid hTs
      have HTG : Hid (∀ p u, (p, u) ∈ T → u = bestV R p) := Lib.hid (fun p u hu => by
        have := HTS.out.get hu
        rw [← (hTg p).1, ← hT, this]
        rfl)
      have HTM : Hid (∀ p, p ∈ keysR T → p.length ≤ 1048576) := Lib.hid (fun p hp => by
        rw [hT] at hp
        have := (hTm p).1 hp
        rw [HRR.out, List.map_map] at this
        obtain ⟨x, hx, rfl⟩ := List.mem_map.1 this
        have h2 := (HR.out.ok x hx).1
        show (tl x.p).length ≤ _
        rw [tl_len]; exact h2)
      have HF2 : Hid (F = (keysR T).filter fun p => decide (verP (plainB L) p < bestV R p)) := Lib.hid (by rw [HF.out, hT]; rfl)
      have HGL : Hid (∀ p, p.length ≤ maxLen → ∀ W, MapAt W Try.prog 9 mb (mapI T) → (Instr.lookup 127 (.map (some mb)) (.string ⟨⟨p⟩⟩) false).run Try.prog W = .ok (.int .u64 (bestV R p)) W) := Lib.hid (fun p hp W hW => by
        rw [look_mapI hW p hp, hT, (hTg p).1])
      clear hTs hTg hTm hT HF
      have HM4 := Lib.hid hm
      have HB4 := Lib.hid (HB.out.below hb)
      obtain ⟨w5, hrun5, hr5, hg5, hs5⟩ := hm.range Try.underlying9 Try.underlying127
      have hb5 : Below w.heap.size w w5 := hb.trans (grown_below hg5 hb.size (by simp))
      have hs4 := hb.size
      have hmb4 := hm.lt
      subst hw4e
      clear hm
      go_wp2_with fail
      go_loopw [4] (fun ov wr => ∃ (seen : List (List UInt8)) (cnt : Nat) (ss : List (List UInt8)) (A' : Option Addr) (c' : Nat), ov = .slice A' ss.length c' ∧ Rng wr Try.prog 9 mb w4.heap.size (mapI T) seen cnt ∧ seen.length ≤ T.length ∧ wr.ownsRow (w4.heap.size + 1) 9 1 (.slice A' ss.length c') ss.length (ss.map stv) ∧ Hid (ss = seen.filter fun p => decide (verP (plainB L) p < bestV R p)) ∧ Below w.heap.size w wr) (fun _ wr => wr.rangeLeft mb w4.heap.size)
      case atStart => exact ⟨[], _, [], none, 0, rfl, hr5, by simp, World.ownsRow_nil _ _ _ _, rfl, hb5⟩
      case round =>
        obtain ⟨seen, cnt, ss, A', c', rfl, hr, hsl, hown, hss, hbr⟩ := hrel
        have hlr := hr.lt
        have hsz := hbr.size
        have hssl : ss.length ≤ 1000000 := by
          have h2 : ss.length ≤ seen.length := by rw [hss.out]; exact List.length_filter_le _ _
          omega
        rcases hr.next Try.underlying9 0 with ⟨hrun, h0, hnd, hall⟩ | ⟨p, v, w6, cnt1, hpv, hpn, hrun, hr1, hlt, hg1, hs1', hen⟩
        · have hfin : ss.mergeSort leT = F := by
            rw [hss.out, HF2.out]
            refine sort_keys HTS.out _ (hnd.filter _) fun k => ?_
            rw [List.mem_filter, hall, keys_mapI]
          have hssx : ∀ x ∈ ss, x.length ≤ 140737488355328 := fun x hx => by
            rw [hss.out, List.mem_filter, hall, keys_mapI] at hx
            have := HTM.out x hx.1
            omega
          have HFN := Lib.hid hfin
          have HST := Lib.hid (sortsT _ A' c' ss _ hown hssx (by omega))
          have hml := (Row.of_own hown).lt
          have HMR := Lib.hid hr.at_
          clear hfin hss hall hnd hssx hown
          go_wp2_with fail
          refine HST.out.mono ?_
          rintro e w7 ⟨rfl, hown7, hg7⟩
          have hw7 : Below w.heap.size w w7 := hbr.trans (grown_below hg7 hsz (fun g hg => by have := hml g hg; omega))
          have HM7 := Lib.hid (HMR.out.kept hg7 (fun e => by have := hml mb e.symm; omega))
          rw [HFN.out] at hown7
          have HO7 := Lib.hid (own_base hown7 (base' := w.heap.size) (fun g hg => by have := (hown7.lt g hg).1; omega))
          have HB7 := Lib.hid (HB.out.below hw7)
          have hFl : F.length = ss.length := by rw [← HFN.out]; exact List.length_mergeSort ss
          rw [← hFl] at HO7
          have HFL := Lib.hid hFl
          have HPA := Lib.hid (bookPaths_any bb mo L s w7 HB7.out)
          clear hown7 hg7 HST HMR hr hrun hbr HB4
          go_wp2_with fail
          rw [← HFL.out]
          clear hFl hssl HFN
          refine HPA.out.mono ?_
          rintro e w8 ⟨A8, c8, rfl, ho8, hb8⟩
          have hw8 := hw7.trans (hb8.mono hw7.size)
          have HO8 := Lib.hid ho8
          have HM8 := Lib.hid (HM7.out.below hb8)
          have HB8 := Lib.hid (HB7.out.below hb8)
          have HF8 := Lib.hid (own_below HO7.out hb8)
          have hLl := HB8.out.len
          have hs8 := hw8.size
          clear HPA ho8 hb8 HM7 HB7 HO7
          go_wp2_with fail
          have HKS := Lib.hid (fun x (hx : x ∈ L) => HB8.out.keys hx)
          have HG2 : Hid (G = (keysR L).filter fun p => decide (bestV R p < verP (plainB L) p)) := Lib.hid (by rw [HG.out]; unfold giveS; rw [keys_plainB])
          have hkl : (keysR L).length = L.length := keys_len L
          go_loopw [5, 61] (fun gv iv wr => ∃ (i : Nat) (A' : Option Addr) (c' : Nat) (g : List (List UInt8)), i ≤ L.length ∧ iv = .int .i64 (i : Int) ∧ gv = .slice A' g.length c' ∧ Hid (g = ((keysR L).take i).filter fun p => decide (bestV R p < verP (plainB L) p)) ∧ g.length ≤ i ∧ wr.ownsRow w8.heap.size 9 1 (.slice A' g.length c') g.length (g.map stv) ∧ Below w8.heap.size w8 wr) (fun _ iv _ => L.length - (intOf iv).toNat)
          case atStart => exact ⟨0, none, 0, [], Nat.zero_le _, rfl, rfl, rfl, Nat.le_refl _, World.ownsRow_nil _ _ _ _, Below.refl _ _⟩
          case round =>
            obtain ⟨i, A9, c9, g, hi, rfl, rfl, hg, hgi, hog, hb9⟩ := hrel
            have hbr9 := hw8.trans (hb9.mono hw8.size)
            by_cases hlt : i < L.length
            · have hlk : i < (keysR L).length := by omega
              obtain ⟨b, off, hA, hbb, c0⟩ := txt_atE hkl.symm (own_below HO8.out hb9) (i := i) hlk
              have hk96 : ((keysR L)[i]).length ≤ 96 := by
                obtain ⟨x, hx, e⟩ := List.mem_map.1 (List.getElem_mem hlk)
                rw [← e]; exact HKS.out x hx
              have hfs := filt_snoc ((keysR L).take i) (keysR L)[i] (fun p => decide (bestV R p < verP (plainB L) p))
              rw [← List.take_succ_eq_append_getElem hlk, ← hg.out] at hfs
              obtain ⟨p, hp⟩ : ∃ p, p = (keysR L)[i] := ⟨_, rfl⟩
              rw [← hp] at c0 hk96 hfs
              simp only [stv] at c0
              subst hA
              have HGT := Lib.hid (bookget_any bb mo L s p wr (HB8.out.below hb9) (by simp only [maxLen]; omega))
              have HFS := Lib.hid hfs
              clear hlk hp hg hfs
              go_wp2_with fail
              refine HGT.out.mono ?_
              rintro e w10 ⟨⟨o, rfl, ho⟩, hb10⟩
              have HOV := Lib.hid (ver_got ho.out)
              have hba : Below w10.heap.size w10 (w10.alloc (.cells #[.string o.p, .int .u64 o.v, .int .i64 o.k, .slice o.x.A o.x.l.length o.x.c] 28)) := (Below.refl _ _).alloc (Nat.le_refl _) _
              have z11 := Blk.new w10 28 #[.string o.p, .int .u64 o.v, .int .i64 o.k, .slice o.x.A o.x.l.length o.x.c]
              have hw11 := (hb9.trans (hb10.mono hb9.size)).trans (hba.mono (Nat.le_trans hb9.size hb10.size))
              have hog11 := own_below (own_below hog hb10) hba
              have hlook := HGL.out p (by simp only [maxLen]; omega) _ (HM8.out.below hw11)
              clear HGT hog hb10 ho
              go_upto_region 18 with (fail)
              generalize w10.alloc (.cells #[.string o.p, .int .u64 o.v, .int .i64 o.k, .slice o.x.A o.x.l.length o.x.c] 28) = w11 at *
              have q0 := z11.cell 0
              have q1 := z11.cell 1
              have q2 := z11.cell 2
              have q3 := z11.cell 3
              simp only [List.getElem?_toArray, List.getElem?_cons_zero, List.getElem?_cons_succ] at q0 q1 q2 q3
              clear hba z11
              have hs11 := hw11.size
              obtain ⟨bv', hbv⟩ : ∃ bv', bv' = bestV R p := ⟨_, rfl⟩
              rw [← hbv] at hlook HFS
              rw [← HOV.out] at HFS
              clear hbv HOV
              by_cases hlu : bv' < o.v
              · have hd : decide (bv' < o.v) = true := decide_eq_true hlu
                have hfs := HFS.out
                rw [if_pos hd] at hfs
                have HFS2 := Lib.hid hfs
                have HO := Lib.hid (World.ownsRow.alloc hog11 (.cells #[stv p] 9))
                have hra : Hid (Rd (w11.alloc (.cells #[stv p] 9)) (fun _ => True) 1 (some ⟨w11.heap.size, 0, none⟩) 1 [stv p]) := (Rd.lit (w := w11) (t := 9) (size := 1) (n := 1) (xs := [stv p]) rfl rfl rfl).mono (fun _ _ _ => trivial)
                have hlb := hog11.lt
                clear hfs hog11 HFS
                go_wp2_with (at_builtin; refine wpList_append_one rfl (.tmp 77) (.tmp 79) (t := 63) rfl rfl rfl HO.out rfl hra.out (by omega) (by simp; omega) ?_; intro A3 c3 w3 hown3 hg3)
                have hb3 : Below w8.heap.size w8 w3 := (hw11.alloc hs11 _).trans (grown_below hg3 (by simp; omega) (fun g hg => by have := (hlb _ hg).1; omega))
                go_roundw
                case rel => exact ⟨i + 1, A3, c3, g ++ [p], hlt, by go_num, by simp, HFS2.out.symm, by simp; omega, hown3, hb3⟩
                case measure => simp [intOf]; omega
              · have hd : decide (bv' < o.v) = false := decide_eq_false hlu
                have hfs := HFS.out
                rw [if_neg (by rw [hd]; simp)] at hfs
                have HFS2 := Lib.hid hfs
                clear hfs HFS
                go_wp2_with fail
                go_roundw
                case rel => exact ⟨i + 1, A9, c9, g, hlt, by go_num, rfl, HFS2.out.symm, by omega, hog11, hw11⟩
                case measure => simp [intOf]; omega
            · have e : i = L.length := by omega
              subst e
              have HG3 : Hid (g = G) := Lib.hid (by rw [hg.out, HG2.out, ← hkl, List.take_length])
              have hs89 := hb9.size
              clear hg
              go_wp2_with fail
              refine bodyPost_ret (v := .tuple #[.slice A' F.length c', .slice A9 g.length c9]) (by simp [results, Try.results29, go_sem]) rfl ?_
              exact ⟨⟨A', A9, c', c9, F, g, rfl, rfl, HG3.out, own_below HF8.out hb9, own_base hog (fun g hg => Nat.le_trans hs8 (hog.lt _ hg).1)⟩, hbr9⟩
        · obtain ⟨⟨p', u⟩, hpu, hye⟩ := List.mem_map.1 hpv
          injection hye with e1 e2
          subst e1
          subst e2
          simp only at hrun hen hr1 hpn
          obtain ⟨p, hp⟩ : ∃ p, p = p' := ⟨_, rfl⟩
          have hub := HTG.out _ _ hpu
          have hpk : p' ∈ keysR T := List.mem_map.2 ⟨_, hpu, rfl⟩
          have hpl := HTM.out _ hpk
          have hb6 : Below w.heap.size w w6 := hbr.trans (grown_below hg1 hsz (fun g hg => by injection hg with hg; omega))
          have hown6 : w6.ownsRow (w4.heap.size + 1) 9 1 (.slice A' ss.length c') ss.length (ss.map stv) := own_fr hown (Fr.of_grown hg1 (S := fun g => g = w4.heap.size) (fun k _ e => by injection e with e; exact e.symm)) (fun g hg e => by have := (hown.lt g hg).1; omega)
          have hsl2 : (seen ++ [p']).length ≤ T.length := by
            obtain ⟨D, left, _, h4, hcol⟩ := hr1.rng
            have h2 : (seen ++ [p']) ⊆ keysR (mapI T) := fun k hk => by
              have := ((hcol.2 k).1 hk).1
              rw [h4.has] at this
              exact getR_isSome.1 this
            have := nodup_len _ _ hcol.1 h2
            rw [keys_len] at this
            simpa [mapI] using this
          have hfs := filt_snoc seen p' (fun p => decide (verP (plainB L) p < bestV R p))
          rw [← hss.out] at hfs
          have hleft := hr.left_eq
          have HG6 := Lib.hid (bookget_any bb mo L s p' w6 (HB.out.below hb6) (by simp only [maxLen]; omega))
          subst hp
          have HFS := Lib.hid hfs
          have HUB := Lib.hid hub
          clear hss hown hr hbr hpv hpn hpu hub hfs
          go_wp2_with fail
          refine HG6.out.mono ?_
          rintro e w7 ⟨⟨o, rfl, ho⟩, hb7⟩
          have hov := ver_got ho.out
          have hba : Below w7.heap.size w7 (w7.alloc (.cells #[.string o.p, .int .u64 o.v, .int .i64 o.k, .slice o.x.A o.x.l.length o.x.c] 28)) := (Below.refl _ _).alloc (Nat.le_refl _) _
          have z8 := Blk.new w7 28 #[.string o.p, .int .u64 o.v, .int .i64 o.k, .slice o.x.A o.x.l.length o.x.c]
          have hw8 := (hb6.trans (hb7.mono hb6.size)).trans (hba.mono (Nat.le_trans hb6.size hb7.size))
          have hr8 := (hr1.kept (below_grown hb7) (by simp) (by simp)).kept (below_grown hba) (by simp) (by simp)
          have hown8 := own_below (own_below hown6 hb7) hba
          have hs67 := hb7.size
          have hs78 := hba.size
          have HOV := Lib.hid hov
          clear HG6 hown6 hr1 hb7 ho hov
          go_upto_region 11 with (fail)
          generalize w7.alloc (.cells #[.string o.p, .int .u64 o.v, .int .i64 o.k, .slice o.x.A o.x.l.length o.x.c] 28) = w8 at *
          have q0 := z8.cell 0
          have q1 := z8.cell 1
          have q2 := z8.cell 2
          have q3 := z8.cell 3
          simp only [List.getElem?_toArray, List.getElem?_cons_zero, List.getElem?_cons_succ] at q0 q1 q2 q3
          clear hba z8
          by_cases hlu : o.v < u
          · have hd : decide (o.v < u) = true := decide_eq_true hlu
            have hfs := HFS.out
            rw [if_pos (by rw [← HOV.out, ← HUB.out]; exact hd)] at hfs
            have HFS2 := Lib.hid hfs
            have hs8 := hw8.size
            have HO := Lib.hid (World.ownsRow.alloc hown8 (.cells #[stv p] 9))
            have hr9 := hr8.kept (World.grownBy_alloc w8 (.cells #[stv p] 9) none) (by simp) (by simp)
            have hra : Hid (Rd (w8.alloc (.cells #[stv p] 9)) (fun _ => True) 1 (some ⟨w8.heap.size, 0, none⟩) 1 [stv p]) := (Rd.lit (w := w8) (t := 9) (size := 1) (n := 1) (xs := [stv p]) rfl rfl rfl).mono (fun _ _ _ => trivial)
            have hlb := hown8.lt
            clear hfs hown8 hr8 HFS
            go_wp2_with (at_builtin; refine wpList_append_one rfl (.tmp 52) (.tmp 54) (t := 63) rfl rfl rfl HO.out rfl hra.out (by omega) (by simp; omega) ?_; intro A3 c3 w3 hown3 hg3)
            have hr3 : Rng w3 Try.prog 9 mb w4.heap.size (mapI T) (seen ++ [p]) cnt1 := hr9.kept hg3 (fun e => by have := (hlb _ e.symm).1; omega) (fun e => by have := (hlb _ e.symm).1; omega)
            have hb3 : Below w.heap.size w w3 := (hw8.alloc hs8 _).trans (grown_below hg3 (by simp; omega) (fun g hg => by have := (hlb _ hg).1; omega))
            go_roundw
            case rel => exact ⟨seen ++ [p], cnt1, ss ++ [p], A3, c3, by simp, hr3, hsl2, hown3, HFS2.out.symm, hb3⟩
            case measure => rw [hr3.left_eq, hleft]; omega
          · have hd : decide (o.v < u) = false := decide_eq_false hlu
            have hfs := HFS.out
            rw [if_neg (by rw [← HOV.out, ← HUB.out, hd]; simp)] at hfs
            have HFS2 := Lib.hid hfs
            clear hfs HFS
            go_wp2_with fail
            go_roundw
            case rel => exact ⟨seen ++ [p], cnt1, ss, A', c', rfl, hr8, hsl2, hown8, HFS2.out.symm, hw8⟩
            case measure => rw [hr8.left_eq, hleft]; omega

end Go.Proofs.Ytdnljmncdbcgeaa
