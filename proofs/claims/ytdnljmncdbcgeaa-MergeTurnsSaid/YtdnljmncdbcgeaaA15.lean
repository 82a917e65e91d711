/- MergeChanges is true for every input: the changes of any rows of both sides against any book, and their verdicts, are the document's. No condition beyond the row's own. -/
import Derived.Test.YtdnljmncdbcgeaaA14
import Derived.ChangeMaps5

namespace Go.Proofs.Ytdnljmncdbcgeaa
open Go.RowKit Go.Maps

set_option maxRecDepth 100000 in
set_option maxHeartbeats 400000 in
theorem name4_any (w : World) : Calls Try.prog 65 #[.int .i64 4] w fun e w' => e = .returned (.string ⟨#[108, 111, 111, 107]⟩) ∧ Below w.heap.size w w' := by
  go_enter Try.func65, Try.ntmps65
  go_wp2
  go_ret
  exact ⟨rfl, (by repeat (first | exact Below.refl _ _ | refine Below.alloc ?_ (by simp) _ | refine Below.setCell ?_ (by simp) _ | refine Below.drew ?_))⟩
set_option maxRecDepth 100000 in
set_option maxHeartbeats 400000 in
theorem lives25_any (w : World) : Calls Try.prog 25 #[] w fun e w' => e = .returned (.bool true) ∧ Below w.heap.size w w' := by
  go_enter Try.func25, Try.ntmps25
  go_wp2_with fail
  refine (verdict_any _ _ _ _ _ _ _ _ _ _).mono ?_
  rintro e w1 ⟨rfl, hb⟩
  obtain ⟨hc, hf⟩ := bcell hb
  go_wp2_with fail
  refine (verdict_any _ _ _ _ _ _ _ _ _ _).mono ?_
  rintro e w2 ⟨rfl, hb2⟩
  go_wp2_with fail
  refine (name4_any _).mono ?_
  rintro e w3 ⟨rfl, hb3⟩
  go_wp2_with fail
  go_ret
  exact ⟨ret_b (by kernel_rfl), bthen (bthen (bthen (by repeat (first | exact Below.refl _ _ | refine Below.alloc ?_ (by simp) _ | refine Below.setCell ?_ (by simp) _ | refine Below.drew ?_)) hb) hb2) hb3⟩
def lightR (l : List RV) : Bool := decide (l.length ≤ 150) && decide (lensR l ≤ 5000)
theorem Chs.of {w : World} {base : Nat} {e : Ending} {l : List CV} (h : ChOwn w base e l) (hp : ∀ o ∈ l, o.p.size ≤ 1048576) (hl : l.length ≤ 1000000) : ∃ (A : Option Addr) (c : Nat), e = .returned (.slice A l.length c) ∧ Chs w (fun _ => True) A l := by
  obtain ⟨A, c, l', rfl, hl', hr⟩ := h
  obtain rfl := hl'.out
  exact ⟨A, c, rfl, hr.rd.mono (fun _ _ _ => trivial), fun o ho => Nat.le_trans (hp o ho) (by omega), by omega⟩
theorem chgS_p {T : List (List UInt8 × EP)} {mine theirs : List RV} (h : ∀ x ∈ mine ++ theirs, x.p.size ≤ 1048576) : ∀ o ∈ chgS T mine theirs, o.p.size ≤ 1048576 := fun o ho => by
  obtain ⟨p, hp, rfl⟩ := List.mem_map.1 ho
  rw [pathsR_mem] at hp
  obtain ⟨x, hx, rfl⟩ := List.mem_map.1 hp
  have h1 := h x hx
  show (⟨⟨tl x.p⟩⟩ : ByteArray).size ≤ _
  rw [← tl_len]
  show (tl x.p).length ≤ _
  rw [tl_len]; exact h1
theorem chgS_len {T : List (List UInt8 × EP)} {mine theirs : List RV} : (chgS T mine theirs).length ≤ mine.length + theirs.length := by
  unfold chgS
  rw [List.length_map]
  have := pathsR_len (mine ++ theirs)
  rwa [List.length_append] at this

set_option maxRecDepth 100000 in
set_option maxHeartbeats 1000000 in
theorem lightR_any (A : Option Addr) (c : Nat) (R : List RV) (w : World) (h : Rws w A R) :
    Calls Try.prog 24 #[.slice A R.length c] w fun e w' => e = .returned (.bool (lightR R)) ∧ Below w.heap.size w w' := by
  have HR := Lib.hid h
  have hrl := h.len
  obtain ⟨V, hV⟩ : ∃ V, V = lightR R := ⟨_, rfl⟩
  rw [← hV]
  have HV := Lib.hid hV
  clear h hV
  go_enter Try.func24, Try.ntmps24
  go_wp2_with fail
  go_loopw [3, 8] (fun nv iv wr => ∃ (i : Nat) (s : Int), i ≤ R.length ∧ iv = .int .i64 (i : Int) ∧ nv = .int .i64 s ∧ SeenR 150 R i s ∧ Below w.heap.size w wr) (fun _ iv _ => R.length - (intOf iv).toNat)
  case atStart => exact ⟨0, 0, Nat.zero_le _, rfl, rfl, by intro _; simp [lensR], Below.refl _ _⟩
  case round =>
    obtain ⟨i, s, hi, rfl, rfl, hs, hb⟩ := hrel
    by_cases hlt : i < R.length
    · obtain ⟨b, off, hA, hbb, c0, c1, c2, c3, c4⟩ := (HR.out.below hb).at_ hlt
      have hst := Lib.hid (hs.step (by omega) hlt (fun o ho => (HR.out.ok o ho).p))
      have hps := (HR.out.ok _ (List.getElem_mem hlt)).p
      obtain ⟨x, hx⟩ : ∃ x, x = R[i] := ⟨_, rfl⟩
      rw [← hx] at c0 c1 c2 c3 c4 hst hps
      have hba : Below wr.heap.size wr (wr.alloc (.cells #[.string x.p, .int .i64 x.k, .int .u64 x.v, .int .u64 x.s, .int .i64 x.z] 52)) := (Below.refl _ _).alloc (Nat.le_refl _) _
      have z3 := Blk.new wr 52 #[.string x.p, .int .i64 x.k, .int .u64 x.v, .int .u64 x.s, .int .i64 x.z]
      have hw3 := hb.trans (hba.mono hb.size)
      subst hA
      clear hs hx
      go_upto_region 5 with (fail)
      generalize wr.alloc (.cells #[.string x.p, .int .i64 x.k, .int .u64 x.v, .int .u64 x.s, .int .i64 x.z] 52) = w3 at *
      have q0 := z3.cell 0
      have q1 := z3.cell 1
      have q2 := z3.cell 2
      have q3 := z3.cell 3
      have q4 := z3.cell 4
      simp only [List.getElem?_toArray, List.getElem?_cons_zero, List.getElem?_cons_succ] at q0 q1 q2 q3 q4
      clear hba c0 c1 c2 c3 c4
      go_wp2_with fail
      go_roundw
      case rel => exact ⟨i + 1, _, hlt, by go_num, rfl, by have := hst.out; push_cast at this; exact this, hw3⟩
      case measure => simp [intOf]; omega
    · have e : i = R.length := by omega
      subst e
      by_cases hR1 : R.length ≤ 150
      · have hRd : decide ((R.length : Int) ≤ 150) = true := decide_eq_true (by omega)
        have hs2 := hs hR1
        rw [List.take_length] at hs2
        have HVV : Hid (V = decide (s ≤ 5000)) := Lib.hid (by
          rw [HV.out, hs2]
          unfold lightR
          rw [decide_eq_true hR1, Bool.true_and]
          congr 1
          simp only [eq_iff_iff]
          omega)
        clear hs hs2
        go_wp2_with fail
        go_ret
        exact ⟨by rw [HVV.out]; rfl, hb⟩
      · have hRd : decide ((R.length : Int) ≤ 150) = false := decide_eq_false (by omega)
        have HVV : Hid (V = false) := Lib.hid (by
          rw [HV.out]
          unfold lightR
          rw [decide_eq_false hR1, Bool.false_and])
        clear hs
        go_wp2_with fail
        go_ret
        exact ⟨by rw [HVV.out]; rfl, hb⟩


set_option maxRecDepth 100000 in
set_option maxHeartbeats 4000000 in
theorem mergeChangesLaw_any (A : Option Addr) (c : Nat) (l : List EV) (C : Option Addr) (d : Nat) (mine : List RV) (D : Option Addr) (dd : Nat) (theirs : List RV) (w : World) (h : Ents w (fun b => b < w.heap.size) A l) (hr : Rws w C mine) (ht : Rws w D theirs) :
    Calls Try.prog 5 #[.slice A l.length c, .slice C mine.length d, .slice D theirs.length dd] w fun e w' => e = .returned (.bool true) ∧ Below w.heap.size w w' := by
  have HL := Lib.hid (lightE_any A c l _ _ h)
  have HA := Lib.hid h
  have HR := Lib.hid hr
  have HT := Lib.hid ht
  clear h hr ht
  rcases hli : lightE l with _ | _
  · rw [hli] at HL
    go_enter Try.func5, Try.ntmps5
    go_wp2_with fail
    refine HL.out.mono ?_
    rintro e w1 ⟨rfl, hw1⟩
    go_wp2_with fail
    refine (lives25_any _).mono ?_
    rintro e w9 ⟨rfl, hb9⟩
    go_wp2_with fail
    go_ret
    exact ⟨rfl, hw1.trans (hb9.mono hw1.size)⟩
  · rw [hli] at HL
    have hla := lightE_all hli
    go_enter Try.func5, Try.ntmps5
    go_wp2_with fail
    refine HL.out.mono ?_
    rintro e w1 ⟨rfl, hw1⟩
    have HL1 := Lib.hid (lightR_any C d mine w1 (HR.out.below hw1))
    clear HL
    rcases hlm : lightR mine with _ | _
    · rw [hlm] at HL1
      go_wp2_with fail
      refine HL1.out.mono ?_
      rintro e w2 ⟨rfl, hb2⟩
      have hw2 := hw1.trans (hb2.mono hw1.size)
      go_wp2_with fail
      refine (lives25_any _).mono ?_
      rintro e w9 ⟨rfl, hb9⟩
      go_wp2_with fail
      go_ret
      exact ⟨rfl, hw2.trans (hb9.mono hw2.size)⟩
    · rw [hlm] at HL1
      go_wp2_with fail
      refine HL1.out.mono ?_
      rintro e w2 ⟨rfl, hb2⟩
      have hw2 := hw1.trans (hb2.mono hw1.size)
      have HL2 := Lib.hid (lightR_any D dd theirs w2 (HT.out.below hw2))
      clear HL1 hb2
      rcases hlt : lightR theirs with _ | _
      · rw [hlt] at HL2
        go_wp2_with fail
        refine HL2.out.mono ?_
        rintro e w3 ⟨rfl, hb3⟩
        have hw3 := hw2.trans (hb3.mono hw2.size)
        go_wp2_with fail
        refine (lives25_any _).mono ?_
        rintro e w9 ⟨rfl, hb9⟩
        go_wp2_with fail
        go_ret
        exact ⟨rfl, hw3.trans (hb9.mono hw3.size)⟩
      · rw [hlt] at HL2
        obtain ⟨hm1, hm2⟩ : mine.length ≤ 150 ∧ lensR mine ≤ 5000 := by unfold lightR at hlm; simpa using hlm
        obtain ⟨ht1, ht2⟩ : theirs.length ≤ 150 ∧ lensR theirs ≤ 5000 := by unfold lightR at hlt; simpa using hlt
        have HRR := Lib.hid (HR.out.rw (by omega) hm2)
        have HTR := Lib.hid (HT.out.rw (by omega) ht2)
        go_wp2_with fail
        refine HL2.out.mono ?_
        rintro e w3 ⟨rfl, hb3⟩
        have hw3 := hw2.trans (hb3.mono hw2.size)
        have HPL := Lib.hid (plays22_any A c l _ w3 (HA.out.below hw3) hla)
        clear HL2 HA hb3 HR HT hm2 ht2 hlm hlt
        go_wp2_with fail
        refine HPL.out.mono ?_
        rintro e w4 ⟨bb, mo, L, B, d2, M, rfl, hP, hbb, hmo, hb4⟩
        have hw4 := hw3.trans (hb4.mono hw3.size)
        have hba : Below w4.heap.size w4 (w4.alloc (.cells #[.int .u64 0, .slice B M.length d2] 33)) := (Below.refl _ _).alloc (Nat.le_refl _) _
        have y6 := Blk.new w4 33 #[.int .u64 0, .slice B M.length d2]
        have hw6 := hw4.trans (hba.mono hw4.size)
        have HP6 := Lib.hid (hP.below hba)
        clear HPL hP hb4
        go_upto_region 6 with (fail)
        generalize w4.alloc (.cells #[.int .u64 0, .slice B M.length d2] 33) = w6 at *
        generalize hT : playB [] (l.map EV.pl) = T at *
        clear hba hT hbb hmo
        have HMC := Lib.hid (fun W (hW : Below w6.heap.size w6 W) => mergeChanges_any bb mo L 0 T C d mine D dd theirs W (HP6.out.book.below hW) HP6.out.plain.out (HRR.out.below (hw6.trans (hW.mono hw6.size))) (HTR.out.below (hw6.trans (hW.mono hw6.size))) ⟨by omega, by omega⟩)
        have HRC := Lib.hid (fun W (hW : Below w6.heap.size w6 W) => refChanges_any B d2 M 0 T C d mine D dd theirs W (HP6.out.es.below hW) HP6.out.same.out (HRR.out.below (hw6.trans (hW.mono hw6.size))) (HTR.out.below (hw6.trans (hW.mono hw6.size))) ⟨by omega, by omega⟩)
        have hCl : (chgS T mine theirs).length ≤ 1000000 := by have := chgS_len (T := T) (mine := mine) (theirs := theirs); omega
        have hcp : ∀ o ∈ chgS T mine theirs, o.p.size ≤ 1048576 := chgS_p (fun x hx => by
          rcases List.mem_append.1 hx with hx | hx
          · exact (HRR.out.ok x hx).1
          · exact (HTR.out.ok x hx).1)
        obtain ⟨G, hG⟩ : ∃ G, G = chgS T mine theirs := ⟨_, rfl⟩
        rw [← hG] at HMC HRC hCl hcp
        have HCP := Lib.hid hcp
        clear hG hcp
        refine wp_region_p [(0, true), (1, true), (2, true), (4, true), (5, true), (6, true), (3, false), (7, false), (8, false), (9, true), (10, false), (11, true)] (fun W => Below w6.heap.size w6 W) (by kernel_rfl) (by kernel_rfl) ?_
        simp only [List.map_cons, List.map_nil, List.filterMap_cons, List.filterMap_nil, List.getElem?_cons_zero, List.getElem?_cons_succ, List.length_cons, List.length_nil, Nat.zero_add, Nat.reduceAdd, List.drop_succ_cons, List.drop_zero]
        refine mx_move _ (by kernel_rfl) rfl ⟨_, (by ((try simp [go_sem]); (try rfl); done)), _, (by (simp only [Act.put, List.setIfInBounds_toArray, List.set_cons_zero, List.set_cons_succ]; rfl)), ?_⟩
        refine mx_move _ (by kernel_rfl) rfl ⟨_, (by ((try simp [go_sem]); (try rfl); done)), _, (by (simp only [Act.put, List.setIfInBounds_toArray, List.set_cons_zero, List.set_cons_succ]; rfl)), ?_⟩
        refine mx_move _ (by kernel_rfl) rfl ⟨_, (by ((try simp [go_sem]); (try rfl); done)), _, (by (simp only [Act.put, List.setIfInBounds_toArray, List.set_cons_zero, List.set_cons_succ]; rfl)), ?_⟩
        refine mx_val (by kernel_rfl) ⟨_, (by (intro w' hC; (have q0 := (y6.below hC).cell 0; have q1 := (y6.below hC).cell 1; simp only [List.getElem?_toArray, List.getElem?_cons_zero, List.getElem?_cons_succ] at q0 q1); clear hC; (try go_simp); (try with_reducible rfl); done)), _, (by (simp only [Act.put, List.setIfInBounds_toArray, List.set_cons_zero, List.set_cons_succ]; rfl)), ?_⟩
        refine mx_move _ (by kernel_rfl) rfl ⟨_, (by ((try simp [go_sem]); (try rfl); done)), _, (by (simp only [Act.put, List.setIfInBounds_toArray, List.set_cons_zero, List.set_cons_succ]; rfl)), ?_⟩
        refine mx_move _ (by kernel_rfl) rfl ⟨_, (by ((try simp [go_sem]); (try rfl); done)), _, (by (simp only [Act.put, List.setIfInBounds_toArray, List.set_cons_zero, List.set_cons_succ]; rfl)), ?_⟩
        refine mx_call ((Below.refl _ _).drew) (by kernel_rfl) ?_ (HMC.out w6.drew (Below.refl _ _).drew) ?_
        · (go_simp; done)
        rintro e wa ⟨hch, hba⟩
        have hca : Below w6.heap.size w6 wa := (Below.refl _ _).drew.trans (hba.mono (Below.refl w6.heap.size w6).drew.size)
        obtain ⟨A7, c7, rfl, hC7⟩ := Chs.of hch HCP.out hCl
        clear hch
        refine ⟨_, rfl, _, (by (simp only [Act.put, List.setIfInBounds_toArray, List.set_cons_zero, List.set_cons_succ]; rfl)), ?_⟩
        refine mx_call (hca) (by kernel_rfl) ?_ (HRC.out wa hca) ?_
        · (go_simp; done)
        rintro e wb ⟨hch, hbb⟩
        have hcb : Below w6.heap.size w6 wb := hca.trans (hbb.mono hca.size)
        obtain ⟨A8, c8, rfl, hC8⟩ := Chs.of hch HCP.out hCl
        have HSM := sameR_any A7 A8 c7 c8 G G _ _ wb (hC7.below hbb) hC8
        rw [(sameCs_iff G G).2 rfl] at HSM
        replace HSM := Lib.hid HSM
        clear hch hC7 hC8
        refine ⟨_, rfl, _, (by (simp only [Act.put, List.setIfInBounds_toArray, List.set_cons_zero, List.set_cons_succ]; rfl)), ?_⟩
        refine mx_call (hcb) (by kernel_rfl) ?_ (HSM.out) ?_
        · (go_simp; done)
        rintro e wc ⟨rfl, hbc⟩
        have hcc : Below w6.heap.size w6 wc := hcb.trans (hbc.mono hcb.size)
        clear HSM
        refine ⟨_, rfl, _, (by (simp only [Act.put, List.setIfInBounds_toArray, List.set_cons_zero, List.set_cons_succ]; rfl)), ?_⟩
        refine mx_move _ (by kernel_rfl) rfl ⟨_, (by ((try simp [go_sem]); (try rfl); done)), _, (by (simp only [Act.put, List.setIfInBounds_toArray, List.set_cons_zero, List.set_cons_succ]; rfl)), ?_⟩
        refine mx_call (hcc) (by kernel_rfl) ?_ (lives25_any wc) ?_
        · (go_simp; done)
        rintro e wd ⟨rfl, hbd⟩
        have hcd : Below w6.heap.size w6 wd := hcc.trans (hbd.mono hcc.size)
        refine ⟨_, rfl, _, (by (simp only [Act.put, List.setIfInBounds_toArray, List.set_cons_zero, List.set_cons_succ]; rfl)), ?_⟩
        refine mx_val (by kernel_rfl) ⟨_, (by (intro w' hC; clear hC; (try go_simp); (try with_reducible rfl); done)), _, (by (simp only [Act.put, List.setIfInBounds_toArray, List.set_cons_zero, List.set_cons_succ]; rfl)), ?_⟩
        refine mx_end hcd ?_
        have hw9 := hw6.trans (hcd.mono hw6.size)
        clear hca hcb hcc hcd hba hbb hbc hbd
        go_wp2_with fail
        go_ret
        exact ⟨rfl, hw9⟩

end Go.Proofs.Ytdnljmncdbcgeaa

/- MergeTurns is true for every input: with client and server exchanged each verdict is the other side's. No condition beyond the row's own. -/
namespace Go.Proofs.Ytdnljmncdbcgeaa
open Go.RowKit Go.Maps

def turnV (v : Int) : Int := if v = 1 then 2 else if v = 2 then 1 else v
theorem verd_turn (m t : Bool) (k o s l : Int) : verd t m o k l s = turnV (verd m t k o s l) := by
  cases m <;> cases t <;> grind [verd, turnV]
theorem verd_range (m t : Bool) (k o s l : Int) (h : (m || t) = true) : verd m t k o s l = 1 ∨ verd m t k o s l = 2 ∨ verd m t k o s l = 3 ∨ verd m t k o s l = 4 ∨ verd m t k o s l = 5 := by
  cases m <;> cases t <;> grind [verd]
theorem paths_turn (mine theirs : List RV) : pathsR (theirs ++ mine) = pathsR (mine ++ theirs) :=
  set_eq (pathsR_sort _) fun q => by
    rw [pathsR_mem, List.map_append, List.map_append, List.mem_append, List.mem_append]
    exact Or.comm
theorem find_or {mine theirs : List RV} {p : List UInt8} (h : p ∈ pathsR (mine ++ theirs)) : ((findRv ⟨⟨p⟩⟩ mine).isSome || (findRv ⟨⟨p⟩⟩ theirs).isSome) = true := by
  rw [pathsR_mem, List.map_append, List.mem_append] at h
  have hs : ∀ l : List RV, p ∈ l.map (fun x => tl x.p) → (findRv ⟨⟨p⟩⟩ l).isSome = true := by
    intro l hl
    obtain ⟨x, hx, e⟩ := List.mem_map.1 hl
    rw [idx_find]
    unfold idxR
    rw [List.findIdx?_isSome, List.any_eq_true]
    refine ⟨x, hx, decide_eq_true ?_⟩
    subst e
    rfl
  rcases h with h | h
  · rw [hs _ h]; rfl
  · rw [hs _ h, Bool.or_true]
theorem chg_turn {T : List (List UInt8 × EP)} {mine theirs : List RV} {i : Nat} {x y : CV} (hx : (chgS T mine theirs)[i]? = some x) (hy : (chgS T theirs mine)[i]? = some y) :
    x.p = y.p ∧ y.v = turnV x.v ∧ (x.v = 1 ∨ x.v = 2 ∨ x.v = 3 ∨ x.v = 4 ∨ x.v = 5) := by
  unfold chgS at hx hy
  rw [paths_turn] at hy
  rw [List.getElem?_map] at hx hy
  rcases hq : (pathsR (mine ++ theirs))[i]? with _ | p
  · rw [hq] at hx; cases hx
  · rw [hq] at hx hy
    injection hx with hx
    injection hy with hy
    subst hx hy
    exact ⟨rfl, verd_turn _ _ _ _ _ _, verd_range _ _ _ _ _ _ (find_or (List.mem_of_getElem? hq))⟩
theorem chg_turn_len {T : List (List UInt8 × EP)} {mine theirs : List RV} : (chgS T theirs mine).length = (chgS T mine theirs).length := by
  unfold chgS
  rw [List.length_map, List.length_map, paths_turn]

set_option maxRecDepth 100000 in
set_option maxHeartbeats 4000000 in
theorem mergeTurnsLaw_any (A : Option Addr) (c : Nat) (l : List EV) (C : Option Addr) (d : Nat) (mine : List RV) (D : Option Addr) (dd : Nat) (theirs : List RV) (w : World) (h : Ents w (fun b => b < w.heap.size) A l) (hr : Rws w C mine) (ht : Rws w D theirs) :
    Calls Try.prog 6 #[.slice A l.length c, .slice C mine.length d, .slice D theirs.length dd] w fun e w' => e = .returned (.bool true) ∧ Below w.heap.size w w' := by
  have HL := Lib.hid (lightE_any A c l _ _ h)
  have HA := Lib.hid h
  have HR := Lib.hid hr
  have HT := Lib.hid ht
  clear h hr ht
  rcases hli : lightE l with _ | _
  · rw [hli] at HL
    go_enter Try.func6, Try.ntmps6
    go_wp2_with fail
    refine HL.out.mono ?_
    rintro e w1 ⟨rfl, hw1⟩
    go_wp2_with fail
    refine (lives25_any _).mono ?_
    rintro e w9 ⟨rfl, hb9⟩
    go_wp2_with fail
    go_ret
    exact ⟨rfl, hw1.trans (hb9.mono hw1.size)⟩
  · rw [hli] at HL
    have hla := lightE_all hli
    go_enter Try.func6, Try.ntmps6
    go_wp2_with fail
    refine HL.out.mono ?_
    rintro e w1 ⟨rfl, hw1⟩
    have HL1 := Lib.hid (lightR_any C d mine w1 (HR.out.below hw1))
    clear HL
    rcases hlm : lightR mine with _ | _
    · rw [hlm] at HL1
      go_wp2_with fail
      refine HL1.out.mono ?_
      rintro e w2 ⟨rfl, hb2⟩
      have hw2 := hw1.trans (hb2.mono hw1.size)
      go_wp2_with fail
      refine (lives25_any _).mono ?_
      rintro e w9 ⟨rfl, hb9⟩
      go_wp2_with fail
      go_ret
      exact ⟨rfl, hw2.trans (hb9.mono hw2.size)⟩
    · rw [hlm] at HL1
      go_wp2_with fail
      refine HL1.out.mono ?_
      rintro e w2 ⟨rfl, hb2⟩
      have hw2 := hw1.trans (hb2.mono hw1.size)
      have HL2 := Lib.hid (lightR_any D dd theirs w2 (HT.out.below hw2))
      clear HL1 hb2
      rcases hlt : lightR theirs with _ | _
      · rw [hlt] at HL2
        go_wp2_with fail
        refine HL2.out.mono ?_
        rintro e w3 ⟨rfl, hb3⟩
        have hw3 := hw2.trans (hb3.mono hw2.size)
        go_wp2_with fail
        refine (lives25_any _).mono ?_
        rintro e w9 ⟨rfl, hb9⟩
        go_wp2_with fail
        go_ret
        exact ⟨rfl, hw3.trans (hb9.mono hw3.size)⟩
      · rw [hlt] at HL2
        obtain ⟨hm1, hm2⟩ : mine.length ≤ 150 ∧ lensR mine ≤ 5000 := by unfold lightR at hlm; simpa using hlm
        obtain ⟨ht1, ht2⟩ : theirs.length ≤ 150 ∧ lensR theirs ≤ 5000 := by unfold lightR at hlt; simpa using hlt
        have HRR := Lib.hid (HR.out.rw (by omega) hm2)
        have HTR := Lib.hid (HT.out.rw (by omega) ht2)
        go_wp2_with fail
        refine HL2.out.mono ?_
        rintro e w3 ⟨rfl, hb3⟩
        have hw3 := hw2.trans (hb3.mono hw2.size)
        have HPL := Lib.hid (plays22_any A c l _ w3 (HA.out.below hw3) hla)
        clear HL2 HA hb3 HR HT hm2 ht2 hlm hlt
        go_wp2_with fail
        refine HPL.out.mono ?_
        rintro e w4 ⟨bb, mo, L, B, d2, M, rfl, hP, hbb, hmo, hb4⟩
        have hw4 := hw3.trans (hb4.mono hw3.size)
        have hba : Below w4.heap.size w4 (w4.alloc (.cells #[.int .u64 0, .slice B M.length d2] 33)) := (Below.refl _ _).alloc (Nat.le_refl _) _
        have y6 := Blk.new w4 33 #[.int .u64 0, .slice B M.length d2]
        have hw6 := hw4.trans (hba.mono hw4.size)
        have HP6 := Lib.hid (hP.below hba)
        clear HPL hP hb4
        go_upto_region 6 with (fail)
        generalize w4.alloc (.cells #[.int .u64 0, .slice B M.length d2] 33) = w6 at *
        generalize hT : playB [] (l.map EV.pl) = T at *
        clear hba hT hbb hmo
        have HMC := Lib.hid (fun W (hW : Below w6.heap.size w6 W) => mergeChanges_any bb mo L 0 T C d mine D dd theirs W (HP6.out.book.below hW) HP6.out.plain.out (HRR.out.below (hw6.trans (hW.mono hw6.size))) (HTR.out.below (hw6.trans (hW.mono hw6.size))) ⟨by omega, by omega⟩)
        have HMD := Lib.hid (fun W (hW : Below w6.heap.size w6 W) => mergeChanges_any bb mo L 0 T D dd theirs C d mine W (HP6.out.book.below hW) HP6.out.plain.out (HTR.out.below (hw6.trans (hW.mono hw6.size))) (HRR.out.below (hw6.trans (hW.mono hw6.size))) ⟨by omega, by omega⟩)
        have hCl : (chgS T mine theirs).length ≤ 1000 := by have := chgS_len (T := T) (mine := mine) (theirs := theirs); omega
        have hcp : ∀ o ∈ chgS T mine theirs, o.p.size ≤ 1048576 := chgS_p (fun x hx => by
          rcases List.mem_append.1 hx with hx | hx
          · exact (HRR.out.ok x hx).1
          · exact (HTR.out.ok x hx).1)
        have hcq : ∀ o ∈ chgS T theirs mine, o.p.size ≤ 1048576 := chgS_p (fun x hx => by
          rcases List.mem_append.1 hx with hx | hx
          · exact (HTR.out.ok x hx).1
          · exact (HRR.out.ok x hx).1)
        obtain ⟨G, hG⟩ : ∃ G, G = chgS T mine theirs := ⟨_, rfl⟩
        obtain ⟨G2, hG2⟩ : ∃ G2, G2 = chgS T theirs mine := ⟨_, rfl⟩
        have HGL : Hid (G2.length = G.length) := Lib.hid (by rw [hG, hG2]; exact chg_turn_len)
        have HGT : Hid (∀ (i : Nat) (x y : CV), G[i]? = some x → G2[i]? = some y → x.p = y.p ∧ y.v = turnV x.v ∧ (x.v = 1 ∨ x.v = 2 ∨ x.v = 3 ∨ x.v = 4 ∨ x.v = 5)) := Lib.hid (by
          rw [hG, hG2]; exact fun i x y hx hy => chg_turn hx hy)
        rw [← hG] at HMC hCl hcp
        rw [← hG2] at HMD hcq
        have HCP := Lib.hid hcp
        have HCQ := Lib.hid hcq
        have HC2 : Hid (G2.length ≤ 1000) := Lib.hid (by rw [HGL.out]; exact hCl)
        clear hG hG2 hcp hcq
        go_wp2_with fail
        refine (HMC.out w6 (Below.refl _ _)).mono ?_
        rintro e wa ⟨hch, hba⟩
        obtain ⟨A7, c7, rfl, hC7⟩ := Chs.of hch HCP.out (by omega)
        clear hch HMC
        go_wp2_with fail
        refine (HMD.out wa hba).mono ?_
        rintro e wb ⟨hch, hbb⟩
        obtain ⟨A8, c8, rfl, hC8⟩ := Chs.of hch HCQ.out (by have := HC2.out; omega)
        have hwb : Below w.heap.size w wb := (hw6.trans (hba.mono hw6.size)).trans (hbb.mono (Nat.le_trans hw6.size hba.size))
        have HC7 := Lib.hid (hC7.below hbb).rd
        have HC8 := Lib.hid hC8.rd
        have hne : ((G.length : Int) != (G2.length : Int)) = false := by have := HGL.out; simp; omega
        clear hch HMD hC7 hC8 hba hbb HP6 HRR HTR
        have hwt : Below wb.heap.size wb (wb.alloc (.cells #[.int .i64 0, .int .i64 2, .int .i64 1, .int .i64 3, .int .i64 4, .int .i64 5] 3)) := (Below.refl _ _).alloc (Nat.le_refl _) _
        have hT0 : Hid (Blk (wb.alloc (.cells #[.int .i64 0, .int .i64 2, .int .i64 1, .int .i64 3, .int .i64 4, .int .i64 5] 3)) wb.heap.size 3 #[.int .i64 0, .int .i64 2, .int .i64 1, .int .i64 3, .int .i64 4, .int .i64 5]) := Lib.hid (Blk.new wb _ _)
        go_upto_region 10 with (fail)
        clear hne
        obtain ⟨tb, htb⟩ : ∃ tb, tb = wb.heap.size := ⟨_, rfl⟩
        rw [← htb] at hT0 ⊢
        generalize wb.alloc (.cells #[.int .i64 0, .int .i64 2, .int .i64 1, .int .i64 3, .int .i64 4, .int .i64 5] 3) = wt at *
        have hwt2 := hwb.trans (hwt.mono hwb.size)
        replace HC7 := Lib.hid (HC7.out.below hwt)
        replace HC8 := Lib.hid (HC8.out.below hwt)
        clear htb hwt hwb
        go_wp2_with fail
        go_loopw [54] (fun iv wr => ∃ i : Nat, i ≤ G.length ∧ iv = .int .i64 (i : Int) ∧ Below wt.heap.size wt wr) (fun iv _ => G.length - (intOf iv).toNat)
        case atStart => exact ⟨0, Nat.zero_le _, rfl, Below.refl _ _⟩
        case round =>
          obtain ⟨i, hi, rfl, hb8⟩ := hrel
          by_cases hlt : i < G.length
          · have hlt2 : i < G2.length := by have := HGL.out; omega
            have hw8 := hwt2.trans (hb8.mono hwt2.size)
            obtain ⟨b, off, rfl, hz, hbb, at1⟩ := ch_at (HC7.out.below hb8) hlt
            obtain ⟨b', off', rfl, hz', hbb', at2⟩ := ch_at (HC8.out.below hb8) hlt2
            have HPV := Lib.hid (HGT.out i _ _ (List.getElem?_eq_getElem hlt) (List.getElem?_eq_getElem hlt2))
            generalize G[i] = xi at *
            generalize G2[i] = yi at *
            have bt := hT0.out.below hb8
            have hd := (Below.refl wr.heap.size wr).alloc (Nat.le_refl _) (.cells #[.string xi.p, .int .i64 xi.b, .bool xi.m, .bool xi.t, .int .i64 xi.k, .int .i64 xi.o, .int .i64 xi.s, .int .i64 xi.l, .int .i64 xi.v] 62)
            have at3 := at2.below hbb' hd
            have bc := Blk.new wr 62 #[.string xi.p, .int .i64 xi.b, .bool xi.m, .bool xi.t, .int .i64 xi.k, .int .i64 xi.o, .int .i64 xi.s, .int .i64 xi.l, .int .i64 xi.v]
            obtain ⟨a0, a1, a2, a3, a4, a5, a6, a7, a8⟩ := at1
            replace bt := bt.below hd
            replace hb8 := hb8.trans (hd.mono hb8.size)
            clear at2
            go_upto_region 13 with (fail)
            obtain ⟨cb, hcb⟩ : ∃ cb, cb = wr.heap.size := ⟨_, rfl⟩
            rw [← hcb] at bc ⊢
            generalize wr.alloc (.cells #[.string xi.p, .int .i64 xi.b, .bool xi.m, .bool xi.t, .int .i64 xi.k, .int .i64 xi.o, .int .i64 xi.s, .int .i64 xi.l, .int .i64 xi.v] 62) = W1 at *
            clear a0 a1 a2 a3 a4 a5 a6 a7 a8 hd hcb
            obtain ⟨d0, d1, d2, d3, d4, d5, d6, d7, d8⟩ := at3
            have hba : Below W1.heap.size W1 (W1.alloc (.cells #[.string yi.p, .int .i64 yi.b, .bool yi.m, .bool yi.t, .int .i64 yi.k, .int .i64 yi.o, .int .i64 yi.s, .int .i64 yi.l, .int .i64 yi.v] 62)) := (Below.refl _ _).alloc (Nat.le_refl _) _
            have bd := Blk.new W1 62 #[.string yi.p, .int .i64 yi.b, .bool yi.m, .bool yi.t, .int .i64 yi.k, .int .i64 yi.o, .int .i64 yi.s, .int .i64 yi.l, .int .i64 yi.v]
            replace bc := bc.below hba
            replace bt := bt.below hba
            replace hb8 := hb8.trans (hba.mono hb8.size)
            go_upto_region 14 with (fail)
            obtain ⟨db, hdb⟩ : ∃ db, db = W1.heap.size := ⟨_, rfl⟩
            rw [← hdb] at bd ⊢
            generalize W1.alloc (.cells #[.string yi.p, .int .i64 yi.b, .bool yi.m, .bool yi.t, .int .i64 yi.k, .int .i64 yi.o, .int .i64 yi.s, .int .i64 yi.l, .int .i64 yi.v] 62) = W2 at *
            clear d0 d1 d2 d3 d4 d5 d6 d7 d8 hba hdb
            obtain ⟨hp, hv, hvs⟩ := HPV.out
            clear HPV
            obtain ⟨xp, xb, xm, xt, xk, xo, xs, xl, xv⟩ := xi
            obtain ⟨yp, yb, ym, yt, yk, yo, ys, yl, yv⟩ := yi
            simp only at hp hv hvs
            subst hp hv
            rcases hvs with rfl | rfl | rfl | rfl | rfl
            all_goals
              simp only [turnV, Int.reduceEq, if_true, if_false] at bd
              refine wp_region_b 30 (by kernel_rfl) (by kernel_rfl) ?_
              simp only [List.take_succ_cons, List.take_zero, List.drop_succ_cons, List.drop_zero]
              refine lb_val (by kernel_rfl) ⟨_, (by (intro w' hC; clear hC; (try go_simp); (try with_reducible rfl); done)), _, (by (simp only [Act.put, List.setIfInBounds_toArray, List.set_cons_zero, List.set_cons_succ]; rfl)), ?_⟩
              refine lb_val (by kernel_rfl) ⟨_, (by (intro w' hC; (have q0 := (bc.below hC).cell 0; have q8 := (bc.below hC).cell 8; simp only [List.getElem?_toArray, List.getElem?_cons_zero, List.getElem?_cons_succ] at q0 q8); clear hC; (try go_simp); (try with_reducible rfl); done)), _, (by (simp only [Act.put, List.setIfInBounds_toArray, List.set_cons_zero, List.set_cons_succ]; rfl)), ?_⟩
              refine lb_val (by kernel_rfl) ⟨_, (by (intro w' hC; clear hC; (try go_simp); (try with_reducible rfl); done)), _, (by (simp only [Act.put, List.setIfInBounds_toArray, List.set_cons_zero, List.set_cons_succ]; rfl)), ?_⟩
              refine lb_val (by kernel_rfl) ⟨_, (by (intro w' hC; (have q0 := (bd.below hC).cell 0; have q8 := (bd.below hC).cell 8; simp only [List.getElem?_toArray, List.getElem?_cons_zero, List.getElem?_cons_succ] at q0 q8); clear hC; (try go_simp); (try with_reducible rfl); done)), _, (by (simp only [Act.put, List.setIfInBounds_toArray, List.set_cons_zero, List.set_cons_succ]; rfl)), ?_⟩
              refine lb_val (by kernel_rfl) ⟨_, (by (intro w' hC; clear hC; (try go_simp); (try with_reducible rfl); done)), _, (by (simp only [Act.put, List.setIfInBounds_toArray, List.set_cons_zero, List.set_cons_succ]; rfl)), ?_⟩
              refine lb_move _ (by kernel_rfl) rfl ⟨_, (by ((try simp [go_sem]); (try rfl); done)), _, (by (simp only [Act.put, List.setIfInBounds_toArray, List.set_cons_zero, List.set_cons_succ]; rfl)), ?_⟩
              first | (refine lb_skip (by rfl) ⟨_, (by (simp only [Act.put, List.setIfInBounds_toArray, List.set_cons_zero, List.set_cons_succ]; rfl)), ?_⟩) | (refine lb_val (by kernel_rfl) ⟨_, (by (intro w' hC; clear hC; (try go_simp); (try with_reducible rfl); done)), _, (by (simp only [Act.put, List.setIfInBounds_toArray, List.set_cons_zero, List.set_cons_succ]; rfl)), ?_⟩)
              first | (refine lb_skip (by rfl) ⟨_, (by (simp only [Act.put, List.setIfInBounds_toArray, List.set_cons_zero, List.set_cons_succ]; rfl)), ?_⟩) | (refine lb_val (by kernel_rfl) ⟨_, (by (intro w' hC; (have q0 := (bc.below hC).cell 0; have q8 := (bc.below hC).cell 8; simp only [List.getElem?_toArray, List.getElem?_cons_zero, List.getElem?_cons_succ] at q0 q8); clear hC; (try go_simp); (try with_reducible rfl); done)), _, (by (simp only [Act.put, List.setIfInBounds_toArray, List.set_cons_zero, List.set_cons_succ]; rfl)), ?_⟩)
              first | (refine lb_skip (by rfl) ⟨_, (by (simp only [Act.put, List.setIfInBounds_toArray, List.set_cons_zero, List.set_cons_succ]; rfl)), ?_⟩) | (refine lb_val (by kernel_rfl) ⟨_, (by (intro w' hC; clear hC; (try go_simp); (try with_reducible rfl); done)), _, (by (simp only [Act.put, List.setIfInBounds_toArray, List.set_cons_zero, List.set_cons_succ]; rfl)), ?_⟩)
              refine lb_val (by kernel_rfl) ⟨_, (by (intro w' hC; clear hC; (try go_simp); (try with_reducible rfl); done)), _, (by (simp only [Act.put, List.setIfInBounds_toArray, List.set_cons_zero, List.set_cons_succ]; rfl)), ?_⟩
              refine lb_move _ (by kernel_rfl) rfl ⟨_, (by ((try simp [go_sem]); (try rfl); done)), _, (by (simp only [Act.put, List.setIfInBounds_toArray, List.set_cons_zero, List.set_cons_succ]; rfl)), ?_⟩
              first | (refine lb_skip (by rfl) ⟨_, (by (simp only [Act.put, List.setIfInBounds_toArray, List.set_cons_zero, List.set_cons_succ]; rfl)), ?_⟩) | (refine lb_val (by kernel_rfl) ⟨_, (by (intro w' hC; clear hC; (try go_simp); (try with_reducible rfl); done)), _, (by (simp only [Act.put, List.setIfInBounds_toArray, List.set_cons_zero, List.set_cons_succ]; rfl)), ?_⟩)
              first | (refine lb_skip (by rfl) ⟨_, (by (simp only [Act.put, List.setIfInBounds_toArray, List.set_cons_zero, List.set_cons_succ]; rfl)), ?_⟩) | (refine lb_val (by kernel_rfl) ⟨_, (by (intro w' hC; (have q0 := (bc.below hC).cell 0; have q8 := (bc.below hC).cell 8; simp only [List.getElem?_toArray, List.getElem?_cons_zero, List.getElem?_cons_succ] at q0 q8); clear hC; (try go_simp); (try with_reducible rfl); done)), _, (by (simp only [Act.put, List.setIfInBounds_toArray, List.set_cons_zero, List.set_cons_succ]; rfl)), ?_⟩)
              first | (refine lb_skip (by rfl) ⟨_, (by (simp only [Act.put, List.setIfInBounds_toArray, List.set_cons_zero, List.set_cons_succ]; rfl)), ?_⟩) | (refine lb_val (by kernel_rfl) ⟨_, (by (intro w' hC; clear hC; (try go_simp); (try with_reducible rfl); done)), _, (by (simp only [Act.put, List.setIfInBounds_toArray, List.set_cons_zero, List.set_cons_succ]; rfl)), ?_⟩)
              refine lb_val (by kernel_rfl) ⟨_, (by (intro w' hC; clear hC; (try go_simp); (try with_reducible rfl); done)), _, (by (simp only [Act.put, List.setIfInBounds_toArray, List.set_cons_zero, List.set_cons_succ]; rfl)), ?_⟩
              refine lb_move _ (by kernel_rfl) rfl ⟨_, (by ((try simp [go_sem]); (try rfl); done)), _, (by (simp only [Act.put, List.setIfInBounds_toArray, List.set_cons_zero, List.set_cons_succ]; rfl)), ?_⟩
              first | (refine lb_skip (by rfl) ⟨_, (by (simp only [Act.put, List.setIfInBounds_toArray, List.set_cons_zero, List.set_cons_succ]; rfl)), ?_⟩) | (refine lb_val (by kernel_rfl) ⟨_, (by (intro w' hC; clear hC; (try go_simp); (try with_reducible rfl); done)), _, (by (simp only [Act.put, List.setIfInBounds_toArray, List.set_cons_zero, List.set_cons_succ]; rfl)), ?_⟩)
              first | (refine lb_skip (by rfl) ⟨_, (by (simp only [Act.put, List.setIfInBounds_toArray, List.set_cons_zero, List.set_cons_succ]; rfl)), ?_⟩) | (refine lb_val (by kernel_rfl) ⟨_, (by (intro w' hC; (have q0 := (bd.below hC).cell 0; have q8 := (bd.below hC).cell 8; simp only [List.getElem?_toArray, List.getElem?_cons_zero, List.getElem?_cons_succ] at q0 q8); clear hC; (try go_simp); (try with_reducible rfl); done)), _, (by (simp only [Act.put, List.setIfInBounds_toArray, List.set_cons_zero, List.set_cons_succ]; rfl)), ?_⟩)
              first | (refine lb_skip (by rfl) ⟨_, (by (simp only [Act.put, List.setIfInBounds_toArray, List.set_cons_zero, List.set_cons_succ]; rfl)), ?_⟩) | (refine lb_move _ (by kernel_rfl) rfl ⟨_, (by ((try simp [go_sem]); (try rfl); done)), _, (by (simp only [Act.put, List.setIfInBounds_toArray, List.set_cons_zero, List.set_cons_succ]; rfl)), ?_⟩)
              first | (refine lb_skip (by rfl) ⟨_, (by (simp only [Act.put, List.setIfInBounds_toArray, List.set_cons_zero, List.set_cons_succ]; rfl)), ?_⟩) | (refine lb_val (by kernel_rfl) ⟨_, (by (intro w' hC; clear hC; (try go_simp); (try with_reducible rfl); done)), _, (by (simp only [Act.put, List.setIfInBounds_toArray, List.set_cons_zero, List.set_cons_succ]; rfl)), ?_⟩)
              first | (refine lb_skip (by rfl) ⟨_, (by (simp only [Act.put, List.setIfInBounds_toArray, List.set_cons_zero, List.set_cons_succ]; rfl)), ?_⟩) | (refine lb_val (by kernel_rfl) ⟨_, (by (intro w' hC; (have q0 := (bc.below hC).cell 0; have q8 := (bc.below hC).cell 8; simp only [List.getElem?_toArray, List.getElem?_cons_zero, List.getElem?_cons_succ] at q0 q8); clear hC; (try go_simp); (try with_reducible rfl); done)), _, (by (simp only [Act.put, List.setIfInBounds_toArray, List.set_cons_zero, List.set_cons_succ]; rfl)), ?_⟩)
              first | (refine lb_skip (by rfl) ⟨_, (by (simp only [Act.put, List.setIfInBounds_toArray, List.set_cons_zero, List.set_cons_succ]; rfl)), ?_⟩) | (refine lb_val (by kernel_rfl) ⟨_, (by (intro w' hC; clear hC; (try go_simp); (try with_reducible rfl); done)), _, (by (simp only [Act.put, List.setIfInBounds_toArray, List.set_cons_zero, List.set_cons_succ]; rfl)), ?_⟩)
              first | (refine lb_skip (by rfl) ⟨_, (by (simp only [Act.put, List.setIfInBounds_toArray, List.set_cons_zero, List.set_cons_succ]; rfl)), ?_⟩) | (refine lb_val (by kernel_rfl) ⟨_, (by (intro w' hC; (have q0 := (bt.below hC).cell 0; have q1 := (bt.below hC).cell 1; have q2 := (bt.below hC).cell 2; have q3 := (bt.below hC).cell 3; have q4 := (bt.below hC).cell 4; have q5 := (bt.below hC).cell 5; simp only [List.getElem?_toArray, List.getElem?_cons_zero, List.getElem?_cons_succ] at q0 q1 q2 q3 q4 q5); clear hC; (try go_simp); (try with_reducible rfl); done)), _, (by (simp only [Act.put, List.setIfInBounds_toArray, List.set_cons_zero, List.set_cons_succ]; rfl)), ?_⟩)
              first | (refine lb_skip (by rfl) ⟨_, (by (simp only [Act.put, List.setIfInBounds_toArray, List.set_cons_zero, List.set_cons_succ]; rfl)), ?_⟩) | (refine lb_val (by kernel_rfl) ⟨_, (by (intro w' hC; clear hC; (try go_simp); (try with_reducible rfl); done)), _, (by (simp only [Act.put, List.setIfInBounds_toArray, List.set_cons_zero, List.set_cons_succ]; rfl)), ?_⟩)
              refine lb_val (by kernel_rfl) ⟨_, (by (intro w' hC; clear hC; (try go_simp); (try with_reducible rfl); done)), _, (by (simp only [Act.put, List.setIfInBounds_toArray, List.set_cons_zero, List.set_cons_succ]; rfl)), ?_⟩
              refine lb_move _ (by kernel_rfl) rfl ⟨_, (by ((try simp [go_sem]); (try rfl); done)), _, (by (simp only [Act.put, List.setIfInBounds_toArray, List.set_cons_zero, List.set_cons_succ]; rfl)), ?_⟩
              first | (refine lb_skip (by rfl) ⟨_, (by (simp only [Act.put, List.setIfInBounds_toArray, List.set_cons_zero, List.set_cons_succ]; rfl)), ?_⟩) | (refine lb_val (by kernel_rfl) ⟨_, (by (intro w' hC; clear hC; (try go_simp); (try with_reducible rfl); done)), _, (by (simp only [Act.put, List.setIfInBounds_toArray, List.set_cons_zero, List.set_cons_succ]; rfl)), ?_⟩)
              first | (refine lb_skip (by rfl) ⟨_, (by (simp only [Act.put, List.setIfInBounds_toArray, List.set_cons_zero, List.set_cons_succ]; rfl)), ?_⟩) | (refine lb_val (by kernel_rfl) ⟨_, (by (intro w' hC; (have q0 := (bc.below hC).cell 0; have q8 := (bc.below hC).cell 8; simp only [List.getElem?_toArray, List.getElem?_cons_zero, List.getElem?_cons_succ] at q0 q8); clear hC; (try go_simp); (try with_reducible rfl); done)), _, (by (simp only [Act.put, List.setIfInBounds_toArray, List.set_cons_zero, List.set_cons_succ]; rfl)), ?_⟩)
              first | (refine lb_skip (by rfl) ⟨_, (by (simp only [Act.put, List.setIfInBounds_toArray, List.set_cons_zero, List.set_cons_succ]; rfl)), ?_⟩) | (refine lb_val (by kernel_rfl) ⟨_, (by (intro w' hC; clear hC; (try go_simp); (try with_reducible rfl); done)), _, (by (simp only [Act.put, List.setIfInBounds_toArray, List.set_cons_zero, List.set_cons_succ]; rfl)), ?_⟩)
              refine lb_val (by kernel_rfl) ⟨_, (by (intro w' hC; clear hC; (try go_simp); (try with_reducible rfl); done)), _, (by (simp only [Act.put, List.setIfInBounds_toArray, List.set_cons_zero, List.set_cons_succ]; rfl)), ?_⟩
              refine .nil ?_
              intro w11 hb11
              replace hb8 := hb8.trans (hb11.mono hb8.size)
              clear hb11 bc bd bt
              go_wp2_with fail
              go_roundw
              case rel => exact ⟨i + 1, hlt, by go_num, hb8⟩
              case measure => simp [intOf]; omega
          · have e : i = G.length := by omega
            subst e
            have hw8 := hwt2.trans (hb8.mono hwt2.size)
            go_wp2_with fail
            refine (lives25_any _).mono ?_
            rintro e w9 ⟨rfl, hb9⟩
            go_wp2_with fail
            go_ret
            exact ⟨rfl, hw8.trans (hb9.mono hw8.size)⟩

end Go.Proofs.Ytdnljmncdbcgeaa

/- api.Leaf: as an argument. -/
namespace Go.Proofs.Ytdnljmncdbcgeaa
open Go.RowKit Go.WideShapes Go.ChangeShapes Go.ChangeAt Go.Deep Go.Joins

section
variable {H : Type} {enc : TypeId × Value → H} {w : World} {spare : Nat → Bool} {held : Bool}
/-- what is known of a leaf -/
structure LV.okAt (w : World) (Z : Nat → Prop) (o : LV) : Prop where
  x : o.x.ok w Z
  len : o.x.l.length ≤ 140737488355328
  k : -9223372036854775808 ≤ o.k ∧ o.k < 9223372036854775808
theorem list2 {α : Type} {l : List α} (h : l.length = 2) : ∃ a0 a1, l = [a0, a1] := by
  match l, h with
  | [a0, a1], _ => exact ⟨_, _, rfl⟩
set_option maxRecDepth 100000 in
theorem open_leaf {n : Nat} {cs : List Value} {x : DataW H × List MemPlace} (h : DataW.trod enc Try.prog w 0 spare held n 26 cs = some x) (hw : Within 26 x) :
    ∃ o : LV, cs = o.cells ∧ o.okAt w (fun b => b < w.heap.size) := by
  obtain ⟨ys, n', hcl, hyl, hf⟩ := open_st Try.underlying26 (by kernel_rfl) h (by kernel_rfl) hw
  obtain ⟨a0, a1, rfl⟩ := list2 hcl
  obtain ⟨y0, y1, rfl⟩ := list2 hyl
  obtain ⟨k, e, _, wk⟩ := DataW.trod_int Try.underlying3 (hf 0 _ _ _ rfl rfl rfl).1
  obtain rfl := List.singleton_inj.1 e
  obtain ⟨b, rfl, hb, hbl⟩ := open_bv (hf 1 _ _ _ rfl rfl rfl).1 (hf 1 _ _ _ rfl rfl rfl).2
  have bk := i64_bd wk
  exact ⟨⟨k, b⟩, rfl, hb, hbl, bk⟩
set_option maxRecDepth 100000 in
theorem open_leafv {r : Reach} {b0 : Nat} {v : Value} {d : DataW H} {p : List MemPlace} (hv : Value.okWide Try.prog w r b0 26 v) (h : DataW.Trod enc Try.prog w 0 spare held 26 v d p) (hw : Within 26 (d, p)) :
    ∃ o : LV, v = .agg #[.int .i64 o.k, .slice o.x.A o.x.l.length o.x.c] ∧ o.okAt w (fun b => b < w.heap.size) := by
  obtain ⟨cs, rfl, hsz⟩ := okWide_struct Try.underlying26 hv
  obtain ⟨l⟩ := cs
  obtain ⟨n, hn⟩ := h
  obtain ⟨o, e, ho⟩ := open_leaf (cs := l) hn hw
  subst e
  exact ⟨o, rfl, ho⟩
end
end Go.Proofs.Ytdnljmncdbcgeaa

/- api.Entry: as an argument, in slices. -/
namespace Go.Proofs.Ytdnljmncdbcgeaa
open Go.RowKit Go.WideShapes Go.ChangeShapes Go.ChangeAt Go.ChangeMaps Go.Deep Go.Joins

section
variable {H : Type} {enc : TypeId × Value → H} {w : World} {spare : Nat → Bool} {held : Bool}
/-- a struct of fields of any number of cells -/
theorem open_stg {t : TypeId} {fs : Array Field} {N : Nat} (hs : Try.prog.underlying t = some (.struct fs)) {n : Nat} {cs : List Value} {x : DataW H × List MemPlace} (h : DataW.trod enc Try.prog w 0 spare held n t cs = some x) (hC : Try.prog.cellsOf t = N) (hw : Within t x) :
    ∃ (ys : List (DataW H × List MemPlace)) (n' : Nat), cs.length = N ∧ ys.length = fs.size ∧
      ∀ (j : Nat) (f : Field) (y : DataW H × List MemPlace), fs[j]? = some f → ys[j]? = some y → DataW.trod enc Try.prog w 0 spare held n' f.type ((cs.drop f.offset).take (Try.prog.cellsOf f.type)) = some y ∧ Within f.type y := by
  obtain ⟨xs, n', _, hx, hl, hlen, hg⟩ := DataW.trod_struct hs h
  rw [hC] at hl
  refine ⟨xs, n', hl, hlen, fun j f y hj hy => ⟨by rw [hg j f hj, hy], fun k hk => hw k ?_⟩⟩
  rw [hx]
  simp only [DataW.weights, hs]
  refine DataW.weights_mem_each (j := j) (t := f.type) (d := y.1) ?_ ?_ k hk
  · rw [List.getElem?_map]
    have : fs.toList[j]? = some f := by simpa using hj
    rw [this]; rfl
  · rw [List.getElem?_map, hy]; rfl
theorem list3 {α : Type} {l : List α} (h : l.length = 3) : ∃ a0 a1 a2, l = [a0, a1, a2] := by
  match l, h with
  | [a0, a1, a2], _ => exact ⟨_, _, _, rfl⟩
theorem str_within {b : List UInt8} {p : List MemPlace} (hw : Within 9 ((DataW.lit (Lit.string b) : DataW H), p)) : b.length ≤ 140737488355328 := by
  have h1 := hw b.length (by simp [DataW.weights])
  have h2 := reachBytes_lt
  omega
set_option maxRecDepth 100000 in
theorem open_ent {n : Nat} {cs : List Value} {x : DataW H × List MemPlace} (h : DataW.trod enc Try.prog w 0 spare held n 28 cs = some x) (hw : Within 28 x) :
    ∃ o : EV, cs = o.cells ∧ o.ok w (fun b => b < w.heap.size) := by
  obtain ⟨ys, n', hcl, hyl, hf⟩ := open_stg (N := 4) Try.underlying28 h (by kernel_rfl) hw
  obtain ⟨a0, a1, a2, a3, rfl⟩ := list4 hcl
  obtain ⟨y0, y1, y2, rfl⟩ := list3 hyl
  obtain ⟨f0, w0⟩ := hf 0 _ _ rfl rfl
  obtain ⟨f1, w1⟩ := hf 1 _ _ rfl rfl
  obtain ⟨f2, w2⟩ := hf 2 _ _ rfl rfl
  have c0 : Try.prog.cellsOf 9 = 1 := by kernel_rfl
  have c1 : Try.prog.cellsOf 23 = 1 := by kernel_rfl
  have c2 : Try.prog.cellsOf 26 = 2 := by kernel_rfl
  replace f0 : DataW.trod enc Try.prog w 0 spare held n' 9 (([a0, a1, a2, a3].drop 0).take (Try.prog.cellsOf 9)) = some y0 := f0
  replace f1 : DataW.trod enc Try.prog w 0 spare held n' 23 (([a0, a1, a2, a3].drop 1).take (Try.prog.cellsOf 23)) = some y1 := f1
  replace f2 : DataW.trod enc Try.prog w 0 spare held n' 26 (([a0, a1, a2, a3].drop 2).take (Try.prog.cellsOf 26)) = some y2 := f2
  rw [c0] at f0
  rw [c1] at f1
  rw [c2] at f2
  obtain ⟨p, e, hx0, _⟩ := DataW.trod_string Try.underlying9 f0
  obtain ⟨v, e1, _, wv⟩ := DataW.trod_int Try.underlying23 f1
  obtain ⟨o, e2, ho⟩ := open_leaf f2 w2
  obtain rfl : a0 = .string p := by simpa using e
  obtain rfl : a1 = .int .u64 v := by simpa using e1
  obtain ⟨k, xx⟩ := o
  obtain ⟨rfl, rfl⟩ : a2 = .int .i64 k ∧ a3 = .slice xx.A xx.l.length xx.c := by simpa [LV.cells] using e2
  rw [hx0] at w0
  refine ⟨⟨p, v, k, xx⟩, rfl, ho.x, ho.len, ?_, u64_bd wv, ho.k⟩
  have h1 := str_within w0
  have h2 : p.data.toList.length = p.size := by simp
  show p.size ≤ _
  omega
set_option maxRecDepth 100000 in
theorem open_entv {r : Reach} {b0 : Nat} {v : Value} {d : DataW H} {p : List MemPlace} (hv : Value.okWide Try.prog w r b0 28 v) (h : DataW.Trod enc Try.prog w 0 spare held 28 v d p) (hw : Within 28 (d, p)) :
    ∃ o : EV, v = .agg #[.string o.p, .int .u64 o.v, .int .i64 o.k, .slice o.x.A o.x.l.length o.x.c] ∧ o.ok w (fun b => b < w.heap.size) := by
  obtain ⟨cs, rfl, hsz⟩ := okWide_struct Try.underlying28 hv
  obtain ⟨l⟩ := cs
  obtain ⟨n, hn⟩ := h
  obtain ⟨o, e, ho⟩ := open_ent (cs := l) hn hw
  subst e
  exact ⟨o, rfl, ho⟩
set_option maxRecDepth 100000 in
theorem open_ents {n : Nat} {v : Value} {x : DataW H × List MemPlace} (h : DataW.trod enc Try.prog w 0 spare held n 22 [v] = some x) (hw : Within 22 x) :
    ∃ (A : Option Addr) (c : Nat) (l : List EV), v = .slice A l.length c ∧ Ents w (fun b => b < w.heap.size) A l := by
  obtain ⟨A, c, l, rfl, _, _, h3, h4, h5⟩ := open_sl (w := w) (enc := enc) (spare := spare) (held := held) EV.cells (fun o => o.ok w (fun b => b < w.heap.size)) 4 56 (t := 22) (e := 28) Try.underlying22 (by kernel_rfl) (by kernel_rfl) (by omega) (fun n cs x hx hx2 => open_ent hx hx2) h hw
  refine ⟨A, c, l, rfl, h3, h4, ?_⟩
  have := reachBytes_lt
  omega
end
end Go.Proofs.Ytdnljmncdbcgeaa

/- api.Row: in slices, as an argument. -/
namespace Go.Proofs.Ytdnljmncdbcgeaa
open Go.RowKit Go.WideShapes Go.ChangeShapes Go.ChangeAt Go.ChangeMaps Go.Deep Go.Joins

section
variable {H : Type} {enc : TypeId × Value → H} {w : World} {spare : Nat → Bool} {held : Bool}
theorem list5 {α : Type} {l : List α} (h : l.length = 5) : ∃ a0 a1 a2 a3 a4, l = [a0, a1, a2, a3, a4] := by
  match l, h with
  | [a0, a1, a2, a3, a4], _ => exact ⟨_, _, _, _, _, rfl⟩
set_option maxRecDepth 100000 in
theorem open_row {n : Nat} {cs : List Value} {x : DataW H × List MemPlace} (h : DataW.trod enc Try.prog w 0 spare held n 52 cs = some x) (hw : Within 52 x) :
    ∃ o : RV, cs = o.cells ∧ o.ok := by
  obtain ⟨ys, n', hcl, hyl, hf⟩ := open_stg (N := 5) Try.underlying52 h (by kernel_rfl) hw
  obtain ⟨a0, a1, a2, a3, a4, rfl⟩ := list5 hcl
  obtain ⟨y0, y1, y2, y3, y4, rfl⟩ := list5 hyl
  obtain ⟨f0, w0⟩ := hf 0 _ _ rfl rfl
  obtain ⟨f1, w1⟩ := hf 1 _ _ rfl rfl
  obtain ⟨f2, w2⟩ := hf 2 _ _ rfl rfl
  obtain ⟨f3, w3⟩ := hf 3 _ _ rfl rfl
  obtain ⟨f4, w4⟩ := hf 4 _ _ rfl rfl
  have c0 : Try.prog.cellsOf 9 = 1 := by kernel_rfl
  have c1 : Try.prog.cellsOf 3 = 1 := by kernel_rfl
  have c2 : Try.prog.cellsOf 23 = 1 := by kernel_rfl
  replace f0 : DataW.trod enc Try.prog w 0 spare held n' 9 (([a0, a1, a2, a3, a4].drop 0).take (Try.prog.cellsOf 9)) = some y0 := f0
  replace f1 : DataW.trod enc Try.prog w 0 spare held n' 3 (([a0, a1, a2, a3, a4].drop 1).take (Try.prog.cellsOf 3)) = some y1 := f1
  replace f2 : DataW.trod enc Try.prog w 0 spare held n' 23 (([a0, a1, a2, a3, a4].drop 2).take (Try.prog.cellsOf 23)) = some y2 := f2
  replace f3 : DataW.trod enc Try.prog w 0 spare held n' 23 (([a0, a1, a2, a3, a4].drop 3).take (Try.prog.cellsOf 23)) = some y3 := f3
  replace f4 : DataW.trod enc Try.prog w 0 spare held n' 3 (([a0, a1, a2, a3, a4].drop 4).take (Try.prog.cellsOf 3)) = some y4 := f4
  rw [c0] at f0
  rw [c1] at f1 f4
  rw [c2] at f2 f3
  obtain ⟨p, e, hx0, _⟩ := DataW.trod_string Try.underlying9 f0
  obtain ⟨k, e1, _, wk⟩ := DataW.trod_int Try.underlying3 f1
  obtain ⟨v, e2, _, wv⟩ := DataW.trod_int Try.underlying23 f2
  obtain ⟨s, e3, _, ws⟩ := DataW.trod_int Try.underlying23 f3
  obtain ⟨z, e4, _, wz⟩ := DataW.trod_int Try.underlying3 f4
  obtain rfl : a0 = .string p := by simpa using e
  obtain rfl : a1 = .int .i64 k := by simpa using e1
  obtain rfl : a2 = .int .u64 v := by simpa using e2
  obtain rfl : a3 = .int .u64 s := by simpa using e3
  obtain rfl : a4 = .int .i64 z := by simpa using e4
  rw [hx0] at w0
  refine ⟨⟨p, k, v, s, z⟩, rfl, ?_, u64_bd wv⟩
  have h1 := str_within w0
  have h2 : p.data.toList.length = p.size := by simp
  show p.size ≤ _
  omega
set_option maxRecDepth 100000 in
theorem open_rws {n : Nat} {v : Value} {x : DataW H × List MemPlace} (h : DataW.trod enc Try.prog w 0 spare held n 47 [v] = some x) (hw : Within 47 x) :
    ∃ (A : Option Addr) (c : Nat) (l : List RV), v = .slice A l.length c ∧ Rws w A l ∧ l.length ≤ c ∧ c ≤ maxLen := by
  obtain ⟨A, c, l, rfl, hc1, hc2, h3, h4, h5⟩ := open_sl (w := w) (enc := enc) (spare := spare) (held := held) RV.cells (fun o => o.ok) 5 48 (t := 47) (e := 52) Try.underlying47 (by kernel_rfl) (by kernel_rfl) (by omega) (fun n cs x h hw => open_row h hw) h hw
  refine ⟨A, c, l, rfl, ⟨h3.mono (fun _ _ _ => trivial), h4, ?_⟩, hc1, hc2⟩
  have := reachBytes_lt
  omega
end
end Go.Proofs.Ytdnljmncdbcgeaa
