/- watch: side.note: the walk. -/
import Derived.Test.YtdnljmncdbcgeaaGreatA08

namespace Go.Proofs.YtdnljmncdbcgeaaGreat
open Go.RowKit Go.Maps

theorem wmap_eq_nil (w : World) (m : Option Nat) : (binOp .eql 97 (.map m) (.map none)).run Tryz.prog w = .ok (.bool m.isNone) w := run_eql_map_nil w _ _ _ m Tryz.underlying97
/-- what a side's note leaves -/
structure Noted (w : World) (gb o : Nat) (cs : Array Value) (C : Nat → Prop) (m : Option Nat) (L M : List (List UInt8 × LV)) (R : List (List UInt8 × RW)) (n : Nat) (w' : World) : Prop where
  at_ : ∃ v' m' R', Blk w' gb 102 ((cs.setIfInBounds (o + 1) (.map m')).setIfInBounds o (.pointer v')) ∧ SideAt w' (fun b => C b ∨ w.heap.size ≤ b) v' m' M R' ∧
    Hid (∀ p, rowsW R' p = rowsW R p ++ (if at0 (plainL M) p = at0 (plainL L) p then [] else [(n, at0 (plainL M) p)])) ∧ R'.length ≤ R.length + 256
  fr : Fr (fun b => b = gb ∨ m = some b ∨ blkW R b) w w'
theorem set_self {cs : Array Value} {i : Nat} {u : Value} (h : cs[i]? = some u) : cs.setIfInBounds i u = cs := by
  apply Array.ext_getElem?
  intro j
  rw [Array.getElem?_setIfInBounds]
  by_cases e : i = j
  · subst e
    rw [if_pos rfl, h]
    obtain ⟨hi, _⟩ := Array.getElem?_eq_some_iff.1 h
    rw [if_pos hi]
  · rw [if_neg e]
/-- the rows behind so many of the paths -/
theorem rows_step {R R1 : List (List UInt8 × RW)} {ps : List (List UInt8)} {i n : Nat} {T : List (List UInt8 × LP)} (hnd : ps.Nodup) (hi : i < ps.length) (h : ∀ q, rowsW R1 q = rowsW R q ++ (if q ∈ ps.take i then [(n, at0 T q)] else []))
    {A' : Option Addr} {c' : Nat} {t : TU} (ht : t.pl = (n, at0 T ps[i])) : ∀ q, rowsW (putR R1 ps[i] ⟨A', c', (rowO R1 ps[i]).l ++ [t]⟩) q = rowsW R q ++ (if q ∈ ps.take (i + 1) then [(n, at0 T q)] else []) := by
  intro q
  have hni : ps[i] ∉ ps.take i := by
    rw [List.mem_take_iff_getElem]
    rintro ⟨j, hj, e⟩
    exact List.pairwise_iff_getElem.1 hnd j i (by omega) hi (by omega) e
  rw [rowsW_put, List.take_succ_eq_append_getElem hi]
  by_cases hq : q = ps[i]
  · subst hq
    rw [if_pos rfl, List.map_append, ← rowsW_O, h, if_neg hni, List.append_nil, if_pos (List.mem_append.2 (.inr (List.mem_singleton.2 rfl)))]
    simp [ht]
  · rw [if_neg hq, h]
    by_cases hm : q ∈ ps.take i
    · rw [if_pos hm, if_pos (List.mem_append.2 (.inl hm))]
    · rw [if_neg hm, if_neg (by
        rw [List.mem_append, List.mem_singleton]
        rintro (e | e)
        · exact hm e
        · exact hq e)]

set_option maxRecDepth 100000 in
set_option maxHeartbeats 2000000 in
theorem sideNote_any (gb o : Nat) (cs : Array Value) (v : Option Addr) (m : Option Nat) (L M : List (List UInt8 × LV)) (R : List (List UInt8 × RW)) (C Ca : Nat → Prop) (va : Option Addr) (n : Nat) (w : World)
    (hg : Blk w gb 102 cs) (h0 : cs[o]? = some (.pointer v)) (h1 : cs[o + 1]? = some (.map m)) (hs : SideAt w C v m L R) (ht : TreeQ w Ca va M) (hd : ∀ b, C b → ¬ Ca b) (hgC : ¬ C gb) (hgA : ¬ Ca gb) (hrn : R.length ≤ 100000) (hrr : ∀ p, (rowsW R p).length ≤ 1000) (hn : n ≤ 1000) :
    Calls Tryz.prog 79 #[.pointer (some ⟨gb, o, none⟩), .pointer va, .int .i64 (n : Int)] w fun e w' => e = .returned (.tuple #[]) ∧ Noted w gb o cs C m L M R n w' := by
  have q0 := hg.cell o
  have q1 := hg.cell (o + 1)
  rw [h0] at q0
  rw [h1] at q1
  have f1 := hg.frozen (o + 1)
  have HG := Lib.hid hg
  have HS := Lib.hid hs
  have HQ := Lib.hid ht
  have hgl := hg.lt
  obtain ⟨i0, hi0, hz0, hz1, hz2⟩ := info_parts tu_info
  have HQS : Hid (∀ x ∈ M, x.2.x.l.length ≤ 4096) := Lib.hid (by
    rcases ht with ⟨_, e⟩ | ⟨tb, mo, _, ha, _⟩
    · rw [e]; simp
    · exact fun x hx => (ha.small hx).1)
  have hgC1 : ¬ (C gb ∨ w.heap.size ≤ gb) := by
    rintro (e | e)
    · exact hgC e
    · omega
  obtain ⟨Ca1, hCa1⟩ : ∃ Ca1 : Nat → Prop, Ca1 = fun b => Ca b ∧ b < w.heap.size := ⟨_, rfl⟩
  have hd1 : ∀ b, (C b ∨ w.heap.size ≤ b) → ¬ Ca1 b := by
    rw [hCa1]
    rintro b (e | e) ⟨h1, h2⟩
    · exact hd b e h1
    · omega
  have hq0 : TreeQ w Ca1 va M := ht.mono (fun b hb h => by rw [hCa1]; exact ⟨h, hb⟩)
  have hga1 : ¬ Ca1 gb := by rw [hCa1]; exact fun h => hgA h.1
  clear hCa1 hd hgC hgA ht HQ
  rcases m with _ | mb
  · have hR0 : R = [] := by
      rcases hs.turns.map with ⟨_, e⟩ | ⟨mb, e, _⟩
      · exact e
      · cases e
    have hmm := @run_makeMap Tryz.prog
    have kq : (binOp .eql 97 (.map none) (.map none)).run Tryz.prog w = .ok (.bool true) w := wmap_eq_nil w none
    have hL0 := hs.last
    clear hs hg
    go_enter Tryz.func79, Tryz.ntmps79
    go_upto_region 2 with (fail)
    have hba : Below w.heap.size w (w.alloc (.map #[] 0)) := (Below.refl _ _).alloc (Nat.le_refl _) _
    have hma : MapAt (w.alloc (.map #[] 0)) Tryz.prog 9 w.heap.size (mapW []) := MapAt.made w Tryz.prog 9
    have hgs : Blk ((w.setCell ⟨gb, o + 1, none⟩ (.map (some w.heap.size))).alloc (.map #[] 0)) gb 102 (cs.setIfInBounds (o + 1) (.map (some w.heap.size))) := (HG.out.set_ (o + 1) _).alloc _
    have hfs : Fr (fun b => b = gb) w ((w.setCell ⟨gb, o + 1, none⟩ (.map (some w.heap.size))).alloc (.map #[] 0)) := ((Fr.refl (fun b => b = gb) w).setAt gb (o + 1) rfl _).alloc _
    have hmn : MapAt ((w.setCell ⟨gb, o + 1, none⟩ (.map (some w.heap.size))).alloc (.map #[] 0)) Tryz.prog 9 w.heap.size [] := by
      have := MapAt.made (w.setCell ⟨gb, o + 1, none⟩ (.map (some w.heap.size))) Tryz.prog 9
      simpa using this
    have nB : NoB w (fun b => b = gb) := fun b hb => hb ▸ NoB.blk HG.out (by decide)
    have hL1 := (hL0.fr hfs (fun b hb e => hgC1 (.inl (e ▸ hb))) nB).p
    have hq1 := hq0.fr hfs (fun b hb e => hga1 (e ▸ hb)) nB
    obtain ⟨mb, hmb⟩ : ∃ mb, mb = w.heap.size := ⟨_, rfl⟩
    rw [← hmb] at hgs hmn hfs hL1 hq1 ⊢
    have HCM : Hid (C mb ∨ w.heap.size ≤ mb) := Lib.hid (.inr (by omega))
    have HCR : Hid (∀ b, blkW R b → C b ∨ w.heap.size ≤ b) := Lib.hid (fun b hb => by obtain ⟨x, hx, _⟩ := hb; rw [hR0] at hx; cases hx)
    have HMS : Hid (∀ b, b < w.heap.size → some mb = some b → (none : Option Nat) = some b) := Lib.hid (fun b hb e => by injection e with e; omega)
    obtain ⟨hgo, _⟩ := Array.getElem?_eq_some_iff.1 h1
    have hcx0 : (cs.setIfInBounds (o + 1) (.map (some mb)))[o]? = some (.pointer v) := by
      rw [Array.getElem?_setIfInBounds, if_neg (by omega)]; exact h0
    have hcx1 : (cs.setIfInBounds (o + 1) (.map (some mb)))[o + 1]? = some (.map (some mb)) := by
      rw [Array.getElem?_setIfInBounds, if_pos rfl, if_pos hgo]
    obtain ⟨cs1, hcs1⟩ : ∃ cs1, cs1 = cs.setIfInBounds (o + 1) (.map (some mb)) := ⟨_, rfl⟩
    have HCS := Lib.hid hcs1
    rw [← hcs1] at hgs hcx0 hcx1
    have hg1 := hgs
    have hc0 := hcx0
    have hc1 := hcx1
    have HS1 : Hid (w.heap.size ≤ ((w.setCell ⟨gb, o + 1, none⟩ (.map (some mb))).alloc (.map #[] 0)).heap.size) := Lib.hid hfs.size
    have HFW : Hid (Fr (fun b => b = gb ∨ (none : Option Nat) = some b ∨ blkW R b) w ((w.setCell ⟨gb, o + 1, none⟩ (.map (some mb))).alloc (.map #[] 0))) := Lib.hid (hfs.mono (fun _ _ e => .inl e))
    generalize (w.setCell ⟨gb, o + 1, none⟩ (.map (some mb))).alloc (.map #[] 0) = w1 at *
    have hT1 : TurnsAt w1 (some mb) R := by rw [hR0]; exact ⟨.inr ⟨mb, rfl, hmn⟩, by simp, by simp, by simp, sortR_nil⟩
    clear hgs hcx0 hcx1 hmn hfs hba hma nB hL0 hq0 HG HS hcs1 hmb kq hmm q0 q1 f1
    have q0 := hg1.cell o
    rw [hc0] at q0
    clear hR0
    have H1 := Lib.hid hT1
    have HQ1 := Lib.hid hq1
    have HG1 := Lib.hid hg1
    go_wp2_with fail
    refine (treeDiff_any sortsT v va L M w1 hL1 hq1.p).mono ?_
    rintro e w2 ⟨⟨PA, pc, ps, rfl, hps, hpo⟩, hb2⟩
    have hnd : ps.Nodup := by rw [hps.out]; exact diff_nodup _ _
    have hpl : ps.length ≤ 256 := by
      have h1 := diff_len (plainL L) (plainL M)
      have h2 := hL1.ok.len
      have h3 := hq1.p.ok.len
      rw [hps.out]; omega
    have HT2 := Lib.hid (hT1.below hb2)
    have HG2 := Lib.hid (hg1.below hb2)
    have HPO := Lib.hid hpo
    have HQ2 := Lib.hid (hq1.below hb2)
    have hs2 := hb2.size
    have hrlt : ∀ b, blkW R b → b < w1.heap.size := fun b hb => hT1.rlt b hb
    have hmlt : mb < w1.heap.size := hT1.mlt mb rfl
    have hglt := hg1.lt
    have hplen : ∀ x ∈ ps, x.length ≤ 96 := by
      intro x hx
      rw [hps.out] at hx
      unfold diffS at hx
      have h1 := ((union_keys _).2 x).1 (List.mem_filter.1 hx).1
      rcases List.mem_append.1 h1 with h1 | h1
      · obtain ⟨y, hy, rfl⟩ := List.mem_map.1 h1
        exact goodB_len (hL1.ok.good y hy).1
      · obtain ⟨y, hy, rfl⟩ := List.mem_map.1 h1
        exact goodB_len (hq1.p.ok.good y hy).1
    have HPL := Lib.hid hplen
    have HND := Lib.hid hnd
    have HRL := Lib.hid hrlt
    clear hnd hplen hrlt hT1 hg1 hpo
    go_wp2_with fail
    go_loopw [24] (fun iv wr => ∃ (i : Nat) (R1 : List (List UInt8 × RW)), i ≤ ps.length ∧ iv = .int .i64 (i : Int) ∧ TurnsAt wr (some mb) R1 ∧ Hid (∀ b, blkW R1 b → blkW R b ∨ w2.heap.size ≤ b) ∧ Hid (∀ q, rowsW R1 q = rowsW R q ++ (if q ∈ ps.take i then [(n, at0 (plainL M) q)] else [])) ∧ R1.length ≤ R.length + i ∧ Fr (fun b => some mb = some b ∨ blkW R b) w2 wr) (fun iv _ => ps.length - (intOf iv).toNat)
    case atStart => exact ⟨0, R, Nat.zero_le _, rfl, HT2.out, Lib.hid (fun b h => .inl h), Lib.hid (fun q => by simp), by omega, Fr.refl _ _⟩
    case round =>
      obtain ⟨i, R1, hi, rfl, hT, hbl, hro, hR1, hf⟩ := hrel
      have hsr := hf.size
      have HNS : Hid (∀ b, (some mb = some b ∨ blkW R b) → b < w1.heap.size ∧ b ≠ gb) := Lib.hid (fun b hb => by
        rcases hb with e | hb
        · injection e with e
          exact e ▸ ⟨hmlt, fun e => hgC1 (e ▸ HCM.out)⟩
        · exact ⟨HRL.out b hb, fun e => hgC1 (e ▸ HCR.out b hb)⟩)
      have hgr : Blk wr gb 102 cs1 := HG2.out.fr hf (fun e => (HNS.out gb e).2 rfl)
      have hqr : TreeQ wr Ca1 va M := HQ2.out.fr hf (fun b hb e => by
        rcases e with e | e
        · injection e with e
          exact hd1 b (e ▸ HCM.out) hb
        · exact hd1 b (HCR.out b e) hb) (fun b hb => HT2.out.nob HG2.out b (.inr hb))
      by_cases hlt : i < ps.length
      · have hpr := own_fr HPO.out hf (fun g hg e => by
          have h1 := (HNS.out g e).1
          have h2 := (own_lt HPO.out g hg).1
          omega)
        obtain ⟨b, off, rfl, _, hbb, hc0⟩ := (Rd.of_own (Z := fun _ => True) hpr (fun _ _ _ => trivial)).atm (f := stv) (l := ps) (k := i) hlt
        obtain ⟨p, hp⟩ : ∃ p, p = ps[i] := ⟨_, rfl⟩
        have hpl96 := HPL.out p (hp ▸ List.getElem_mem hlt)
        rw [← hp] at hc0
        obtain ⟨r, hr⟩ : ∃ r, r = rowO R1 p := ⟨_, rfl⟩
        have hrow := hT.rowO_row p
        have hlook := hT.look p (by simp only [maxLen]; omega)
        have hrown := hT.rowO_own p
        have hrl : r.l.length ≤ 2000 := by
          have h1 : (rowsW R1 p).length = r.l.length := by rw [rowsW_O, List.length_map, hr]
          have h2 := hrr p
          rw [hro.out p, List.length_append] at h1
          split at h1 <;> simp at h1 <;> omega
        rw [← hr] at hrow hlook hrown
        have hgx := hgr
        have hcx : cs1[o + 1]? = some (.map (some mb)) := hc1
        have HNG : Hid (ablk r.A ≠ some gb) := Lib.hid (hrow.ne_blk hgr (by decide))
        have HLK : Hid (∀ W, Fr (fun b => ablk r.A = some b) wr W → (Instr.lookup 97 (.map (some mb)) (.string ⟨⟨p⟩⟩) false).run Tryz.prog W = .ok (.slice r.A r.l.length r.c) W) := Lib.hid (fun W hW => by
          have hmm : MapAt W Tryz.prog 9 mb (mapW R1) := by
            rcases hT.map with ⟨e, _⟩ | ⟨mb', e, hm⟩
            · cases e
            · injection e with e
              subst e
              exact hm.block (hW.block mb hm.lt (fun e => hrow.ne_map hm e))
          have := hmm.look Tryz.underlying9 Tryz.underlying97 (turn_zero W) p (by simp only [maxLen]; omega)
          rw [this, mapW_get, hr]
          congr 1
          unfold rowO
          rcases getR R1 p with _ | o <;> rfl)
        have HGP := Lib.hid (fun W (hW : Below wr.heap.size wr W) => treeGetP_any va M p W (hqr.p.below hW) (by omega))
        have hC0 : Fr (fun b => ablk r.A = some b) wr wr.drew := (Fr.refl _ wr).drew
        simp only [stv] at hc0
        have HT := Lib.hid hT
        have HROW := Lib.hid hrow
        have HROWN := Lib.hid hrown
        have HR := Lib.hid hr
        have HP := Lib.hid hp
        clear hlook hT hrow hrown hr hp hpr hqr
        go_wp2_with fail
        refine wp_region_line (.tell 0 (.tell 1 (.tell 2 (.tell 3 (.tell 4 (.tell 5 (.tell 6 (.tell 7 (.tell 8 (.tell 9 (.tell 10 (.tell 11 (.tell 12 (.tell 13 (.one 14 (.tell 15 (.one 16 (.one 17 .done)))))))))))))))))) (fun W => Fr (fun b => ablk r.A = some b) wr W) (by kernel_rfl) (by kernel_rfl) ?_
        refine pl_val (by (simp only [List.getElem?_toArray, List.getElem?_cons_zero]; rfl)) (by kernel_rfl) ⟨_, (by (intro w' hC; clear hC; (try go_simp); (try with_reducible rfl); done)), _, (by (simp only [Act.put, List.setIfInBounds_toArray, List.set_cons_zero, List.set_cons_succ]; rfl)), ?_⟩
        refine pl_val (by (simp only [List.getElem?_toArray, List.getElem?_cons_succ, List.getElem?_cons_zero]; rfl)) (by kernel_rfl) ⟨_, (by (intro w' hC; clear hC; (try go_simp); (try with_reducible rfl); done)), _, (by (simp only [Act.put, List.setIfInBounds_toArray, List.set_cons_zero, List.set_cons_succ]; rfl)), ?_⟩
        refine pl_val (by (simp only [List.getElem?_toArray, List.getElem?_cons_succ, List.getElem?_cons_zero]; rfl)) (by kernel_rfl) ⟨_, (by (intro w' hC; clear hC; (try go_simp); (try with_reducible rfl); done)), _, (by (simp only [Act.put, List.setIfInBounds_toArray, List.set_cons_zero, List.set_cons_succ]; rfl)), ?_⟩
        refine pl_val (by (simp only [List.getElem?_toArray, List.getElem?_cons_succ, List.getElem?_cons_zero]; rfl)) (by kernel_rfl) ⟨_, (by (intro w' hC; have q := (hgx.fr hC (fun e => HNG.out e)).cell (o + 1); rw [hcx] at q; clear hC; (try go_simp); (try with_reducible rfl); done)), _, (by (simp only [Act.put, List.setIfInBounds_toArray, List.set_cons_zero, List.set_cons_succ]; rfl)), ?_⟩
        refine pl_val (by (simp only [List.getElem?_toArray, List.getElem?_cons_succ, List.getElem?_cons_zero]; rfl)) (by kernel_rfl) ⟨_, (by (intro w' hC; clear hC; (try go_simp); (try with_reducible rfl); done)), _, (by (simp only [Act.put, List.setIfInBounds_toArray, List.set_cons_zero, List.set_cons_succ]; rfl)), ?_⟩
        refine pl_val (by (simp only [List.getElem?_toArray, List.getElem?_cons_succ, List.getElem?_cons_zero]; rfl)) (by kernel_rfl) ⟨_, (by (intro w' hC; clear hC; (try go_simp); (try with_reducible rfl); done)), _, (by (simp only [Act.put, List.setIfInBounds_toArray, List.set_cons_zero, List.set_cons_succ]; rfl)), ?_⟩
        refine pl_val (by (simp only [List.getElem?_toArray, List.getElem?_cons_succ, List.getElem?_cons_zero]; rfl)) (by kernel_rfl) ⟨_, (by (intro w' hC; clear hC; (try go_simp); (try with_reducible rfl); done)), _, (by (simp only [Act.put, List.setIfInBounds_toArray, List.set_cons_zero, List.set_cons_succ]; rfl)), ?_⟩
        refine pl_val (by (simp only [List.getElem?_toArray, List.getElem?_cons_succ, List.getElem?_cons_zero]; rfl)) (by kernel_rfl) ⟨_, (by (intro w' hC; clear hC; (try go_simp); (try with_reducible rfl); done)), _, (by (simp only [Act.put, List.setIfInBounds_toArray, List.set_cons_zero, List.set_cons_succ]; rfl)), ?_⟩
        refine pl_val (by (simp only [List.getElem?_toArray, List.getElem?_cons_succ, List.getElem?_cons_zero]; rfl)) (by kernel_rfl) ⟨_, (by (intro w' hC; have q := (hgx.fr hC (fun e => HNG.out e)).cell (o + 1); rw [hcx] at q; clear hC; (try go_simp); (try with_reducible rfl); done)), _, (by (simp only [Act.put, List.setIfInBounds_toArray, List.set_cons_zero, List.set_cons_succ]; rfl)), ?_⟩
        refine pl_val (by (simp only [List.getElem?_toArray, List.getElem?_cons_succ, List.getElem?_cons_zero]; rfl)) (by kernel_rfl) ⟨_, (by (intro w' hC; clear hC; (try go_simp); (try with_reducible rfl); done)), _, (by (simp only [Act.put, List.setIfInBounds_toArray, List.set_cons_zero, List.set_cons_succ]; rfl)), ?_⟩
        refine pl_val (by (simp only [List.getElem?_toArray, List.getElem?_cons_succ, List.getElem?_cons_zero]; rfl)) (by kernel_rfl) ⟨_, (by (intro w' hC; have q := HLK.out _ hC; clear hC; (try go_simp); (try with_reducible rfl); done)), _, (by (simp only [Act.put, List.setIfInBounds_toArray, List.set_cons_zero, List.set_cons_succ]; rfl)), ?_⟩
        refine pl_val (by (simp only [List.getElem?_toArray, List.getElem?_cons_succ, List.getElem?_cons_zero]; rfl)) (by kernel_rfl) ⟨_, (by (intro w' hC; clear hC; (try go_simp); (try with_reducible rfl); done)), _, (by (simp only [Act.put, List.setIfInBounds_toArray, List.set_cons_zero, List.set_cons_succ]; rfl)), ?_⟩
        refine pl_val (by (simp only [List.getElem?_toArray, List.getElem?_cons_succ, List.getElem?_cons_zero]; rfl)) (by kernel_rfl) ⟨_, (by (intro w' hC; clear hC; (try go_simp); (try with_reducible rfl); done)), _, (by (simp only [Act.put, List.setIfInBounds_toArray, List.set_cons_zero, List.set_cons_succ]; rfl)), ?_⟩
        refine pl_val (by (simp only [List.getElem?_toArray, List.getElem?_cons_succ, List.getElem?_cons_zero]; rfl)) (by kernel_rfl) ⟨_, (by (intro w' hC; clear hC; (try go_simp); (try with_reducible rfl); done)), _, (by (simp only [Act.put, List.setIfInBounds_toArray, List.set_cons_zero, List.set_cons_succ]; rfl)), ?_⟩
        refine pl_one (by (simp only [List.getElem?_toArray, List.getElem?_cons_succ, List.getElem?_cons_zero]; rfl)) hC0 ?_
        refine al_call (by kernel_rfl) (by go_simp; done) (HGP.out wr.drew (Below.refl _ _).drew) ?_
        rintro e w5 ⟨⟨A5, c5, l5, rfl, hl5, ho5⟩, hb5⟩
        replace hb5 : Below wr.heap.size wr w5 := (Below.refl _ _).drew.trans (hb5.mono (Nat.le_refl _))
        refine ⟨_, rfl, _, (by (simp only [Act.put, List.setIfInBounds_toArray, List.set_cons_zero, List.set_cons_succ]; rfl)), ?_⟩
        have hlen5 : l5.length ≤ 4096 := by
          rw [hl5.out]
          rcases hq : getR M p with _ | y
          · simp
          · exact HQS.out _ (getR_mem hq)
        obtain ⟨k5, hk5⟩ : ∃ k5, k5 = ((getR M p).map LV.k).getD 0 := ⟨_, rfl⟩
        rw [← hk5]
        have HPL5 : Hid (at0 (plainL M) p = (k5, l5)) := Lib.hid (by
          unfold at0
          rw [get_plain, hk5, hl5.out]
          rcases getR M p with _ | y <;> rfl)
        clear hk5 hl5
        refine pl_val (by (simp only [List.getElem?_toArray, List.getElem?_cons_succ, List.getElem?_cons_zero]; rfl)) (by kernel_rfl) ⟨_, (by (intro w' hC; clear hC; (try go_simp); (try with_reducible rfl); done)), _, (by (simp only [Act.put, List.setIfInBounds_toArray, List.set_cons_zero, List.set_cons_succ]; rfl)), ?_⟩
        refine pl_one (by (simp only [List.getElem?_toArray, List.getElem?_cons_succ, List.getElem?_cons_zero]; rfl)) (Fr.of_below hb5 _) ?_
        refine al_val (by kernel_rfl) ⟨_, _, (by (go_simp; first | done | exact ⟨rfl, rfl⟩)), _, (by (simp only [Act.put, List.setIfInBounds_toArray, List.set_cons_zero, List.set_cons_succ]; rfl)), ?_⟩
        obtain ⟨t, ht⟩ : ∃ t : TU, t = ⟨n, ⟨k5, ⟨A5, c5, l5⟩⟩⟩ := ⟨_, rfl⟩
        have hba : Below w5.heap.size w5 (w5.alloc (.cells #[.int .i64 (n : Int), .int .i64 k5, .slice A5 l5.length c5] 111)) := (Below.refl _ _).alloc (Nat.le_refl _) _
        have hb6 := hb5.trans (hba.mono hb5.size)
        have ry : Rd (w5.alloc (.cells #[.int .i64 (n : Int), .int .i64 k5, .slice A5 l5.length c5] 111)) (fun b => w5.heap.size ≤ b) 3 (some ⟨w5.heap.size, 0, none⟩) 1 (TU.cells t) := Rd.lit (by rw [ht]; rfl) (by rw [ht]; rfl) rfl
        have ho6 := OwB.below ho5 hba
        generalize w5.alloc (.cells #[.int .i64 (n : Int), .int .i64 k5, .slice A5 l5.length c5] 111) = w6 at *
        have hrow6 := HROW.out.below hb6
        refine pl_one (by (simp only [List.getElem?_toArray, List.getElem?_cons_succ, List.getElem?_cons_zero]; rfl)) (Fr.of_below hb6 _) ?_
        refine al_wp (by kernel_rfl) (wp_append_row w6 (.tmp 38) (.tmp 44) 109 rfl 0 111 i0 _ 3 40 Tryz.underlying109 hi0 hz0 hz1 hz2 rfl (by omega) rfl hrow6 rfl ry (fun u hu => tu_one [t] u (by simpa using hu)) (by simp only [maxLen]; omega) (by omega) (Nat.zero_le _) ?_)
        intro A7 c7 w7 hr7 hg7 hf7
        have hC7 : Fr (fun b => ablk r.A = some b) wr w7 := (Fr.of_below hb6 (fun b => ablk r.A = some b)).trans (Fr.of_grown hg7 (S := fun b => ablk r.A = some b) (fun _ _ e => e)) (fun _ _ e => e)
        obtain ⟨l8, hl8⟩ : ∃ l8, l8 = r.l ++ [t] := ⟨_, rfl⟩
        have hrl7 : r.l.length + 1 = l8.length := by rw [hl8]; simp
        have hr7' : Row w7 0 111 3 A7 l8.length c7 (l8.flatMap TU.cells) := by
          rw [hl8, List.flatMap_append, List.flatMap_cons, List.flatMap_nil, List.append_nil, ← hl8, ← hrl7]
          exact hr7
        have hown7 : ∀ x ∈ l8, OwB w7 0 (.slice x.o.x.A x.o.x.l.length x.o.x.c) x.o.x.l ∧ x.o.x.l.length ≤ 4096 := by
          intro x hx
          have n6 : NoB w6 (fun b => ablk r.A = some b) := fun b hb => NoB.row hrow6 (by decide) hb
          rw [hl8] at hx
          rcases List.mem_append.1 hx with hx | hx
          · have h1 := OwB.below (HROWN.out x hx).1 hb6
            exact ⟨own_fr h1 (Fr.of_grown hg7 (S := fun b => ablk r.A = some b) (fun _ _ e => e)) (n6.own h1), (HROWN.out x hx).2⟩
          · rw [List.mem_singleton.1 hx, ht]
            have h1 : OwB w6 0 (.slice A5 l5.length c5) l5 := own_base ho6 (fun _ _ => Nat.zero_le _)
            exact ⟨own_fr h1 (Fr.of_grown hg7 (S := fun b => ablk r.A = some b) (fun _ _ e => e)) (n6.own h1), hlen5⟩
        rw [hrl7]
        refine pl_end hC7 ?_
        simp only [Plan.count, Nat.reduceAdd, List.drop_succ_cons, List.drop_zero, Act.put, List.setIfInBounds_toArray, List.set_cons_zero, List.set_cons_succ]
        have hm7 : MapAt w7 Tryz.prog 9 mb (mapW R1) := by
          rcases HT.out.map with ⟨e, _⟩ | ⟨mb', e, hm⟩
          · cases e
          · injection e with e
            subst e
            exact hm.block (hC7.block mb hm.lt (fun e => HROW.out.ne_map hm e))
        obtain ⟨w8, hrun8, hm8, hg8, hs8⟩ := hm7.store Tryz.underlying9 Tryz.underlying97 p (by simp only [maxLen]; omega) (.slice A7 l8.length c7) (by
          show (R1.map _).length < _
          rw [List.length_map]; simp only [maxLen]; omega)
        have hrO : rowO R1 p = r := HR.out.symm
        have HT8 := Lib.hid (HT.out.put (p := p) (A' := A7) (c' := c7) (l' := l8) (by rw [hrO]; exact hC7) hr7' (by
          rw [hrO]
          intro g hg
          rcases hf7 g hg with e | e
          · exact .inl e
          · exact .inr (Nat.le_trans hb6.size e)) hown7 hm8 hg8)
        have HRO8 : Hid (∀ q, rowsW (putR R1 p ⟨A7, c7, l8⟩) q = rowsW R q ++ (if q ∈ ps.take (i + 1) then [(n, at0 (plainL M) q)] else [])) := Lib.hid (by
          rw [hl8, ← hrO, HP.out]
          refine rows_step HND.out hlt hro.out ?_
          rw [ht, ← HP.out]
          show (n, (k5, l5)) = _
          rw [HPL5.out])
        have HBL8 : Hid (∀ b, blkW (putR R1 p ⟨A7, c7, l8⟩) b → blkW R b ∨ w2.heap.size ≤ b) := Lib.hid (fun b hb => by
          rcases blkW_put hb with e | e
          · rcases hf7 b e with e | e
            · exact hbl.out b (TurnsAt.rowO_blk p (by rw [hrO]; exact e))
            · exact .inr (Nat.le_trans hsr (Nat.le_trans hb6.size e))
          · exact hbl.out b e)
        have HL8 : Hid ((putR R1 p ⟨A7, c7, l8⟩).length ≤ R.length + (i + 1)) := Lib.hid (by
          have := put_len_le R1 p ⟨A7, c7, l8⟩
          omega)
        have HF8 : Hid (Fr (fun b => some mb = some b ∨ blkW R b) w2 w8) := Lib.hid ((hf.trans hC7 (fun x hx e => by
          rcases hbl.out x (TurnsAt.rowO_blk p (by rw [hrO]; exact e)) with e2 | e2
          · exact .inr e2
          · omega)).trans (Fr.of_grown hg8 (S := fun b => some mb = some b) (fun _ _ e => e)) (fun _ _ e => .inl e))
        clear hrl7 hl8 hr7 hr7' hown7 hm7 hm8 hrow6 ho6 ho5 ry ht HRL HROW HROWN hrO hro hbl hgr hgx hcx HLK HGP
        go_wp2_with fail
        go_roundw
        case rel => exact ⟨i + 1, _, hlt, by go_num, HT8.out, HBL8, HRO8, HL8.out, HF8.out⟩
        case measure => simp [intOf]; omega
      · have e : i = ps.length := by omega
        subst e
        have hgw := hgr.frozen o
        have HQR := Lib.hid (treeCloneP_any (fun b => C b ∨ w.heap.size ≤ b) va M wr hqr.p (fun b hb => .inr (by have := HS1.out; omega)))
        have HGR := Lib.hid hgr
        clear hgr hqr
        go_wp2_with fail
        refine HQR.out.mono ?_
        rintro e w3 ⟨v3, rfl, hq3, hb3⟩
        have hg3 := HGR.out.below hb3
        have fz3 := hg3.frozen o
        have q3 := hg3.cell o
        have cz0 : cs1[o]? = some (.pointer v) := hc0
        rw [cz0] at q3
        have HG4 := Lib.hid (hg3.set_ o (.pointer v3))
        have hf4 : Fr (fun b => b = gb) w3 (w3.setCell ⟨gb, o, none⟩ (.pointer v3)) := (Fr.refl (fun b => b = gb) w3).setAt gb o rfl _
        have hT3 := hT.below hb3
        have n3 : NoB w3 (fun b => b = gb) := fun b hb => hb ▸ NoB.blk hg3 (by decide)
        have hgm : ∀ b, some mb = some b → ¬ b = gb := fun b e eb => by
          injection e with e
          exact hgC1 (eb ▸ e ▸ HCM.out)
        have hgrw : ∀ b, blkW R1 b → ¬ b = gb := fun b hb eb => by
          rcases hbl.out b hb with e | e
          · exact hgC1 (eb ▸ HCR.out b e)
          · have := hb2.size; omega
        have HT4 := Lib.hid (hT3.fr hf4 hgm hgrw n3)
        have HQ4 := Lib.hid (hq3.fr hf4 (fun b hb e => hgC1 (e ▸ hb)) n3)
        have HFE : Hid (Fr (fun b => b = gb ∨ some mb = some b ∨ blkW R b) w1 (w3.setCell ⟨gb, o, none⟩ (.pointer v3))) := Lib.hid
          ((((Fr.of_below hb2 (fun b => b = gb ∨ some mb = some b ∨ blkW R b)).trans hf (fun _ _ e => .inr e)).then_below hb3).trans hf4 (fun _ _ e => .inl e))
        have HRO : Hid (∀ p, rowsW R1 p = rowsW R p ++ (if at0 (plainL M) p = at0 (plainL L) p then [] else [(n, at0 (plainL M) p)])) := Lib.hid (fun p => by
          rw [hro.out p, List.take_length, hps.out]
          by_cases hm : p ∈ diffS (plainL L) (plainL M)
          · rw [if_pos hm, if_neg ((diff_mem _ _ p).1 hm)]
          · rw [if_neg hm, if_pos (Classical.not_not.1 (fun e => hm ((diff_mem _ _ p).2 e)))])
        have HCRR : Hid (∀ b, blkW R1 b → C b ∨ w.heap.size ≤ b) := Lib.hid (fun b hb => by
          rcases hbl.out b hb with e | e
          · exact HCR.out b e
          · exact .inr (by have := HS1.out; have := hb2.size; omega))
        clear hT hT3 hq3 hf hro hbl hgm hgrw n3 hf4 hg3
        go_wp2_with fail
        go_end0
        refine ⟨rfl, ⟨v3, some mb, R1, ?_, ⟨HQ4.out, HT4.out, fun b e => by injection e with e; exact e ▸ HCM.out, HCRR.out⟩, HRO, by omega⟩, ?_⟩
        · rw [← HCS.out]; exact HG4.out
        · exact HFW.out.trans HFE.out (fun x hx e => by
            rcases e with e | e | e
            · exact .inl e
            · exact .inr (.inl (HMS.out x hx e))
            · exact .inr (.inr e))
  · have kq : (binOp .eql 97 (.map (some mb)) (.map none)).run Tryz.prog w = .ok (.bool false) w := wmap_eq_nil w (some mb)
    have hg1 := hg
    have hT1 := hs.turns
    have hL1 := hs.last.p
    have hq1 := hq0
    have HCM : Hid (C mb ∨ w.heap.size ≤ mb) := Lib.hid (.inl (hs.cm mb rfl))
    have HCR : Hid (∀ b, blkW R b → C b ∨ w.heap.size ≤ b) := Lib.hid (fun b hb => .inl (hs.cr b hb))
    have hc0 := h0
    have hc1 := h1
    obtain ⟨cs1, hcs1⟩ : ∃ cs1, cs1 = cs := ⟨_, rfl⟩
    have HCS : Hid (cs1 = cs.setIfInBounds (o + 1) (.map (some mb))) := Lib.hid (by rw [hcs1]; exact (set_self h1).symm)
    rw [← hcs1] at hg1 hc1 hc0
    have HS1 : Hid (w.heap.size ≤ w.heap.size) := Lib.hid (Nat.le_refl _)
    have HFW : Hid (Fr (fun b => b = gb ∨ some mb = some b ∨ blkW R b) w w) := Lib.hid (Fr.refl _ _)
    have HMS : Hid (∀ b, b < w.heap.size → some mb = some b → some mb = some b) := Lib.hid (fun _ _ e => e)
    clear hg hs hq0 HG HS hcs1
    go_enter Tryz.func79, Tryz.ntmps79
    go_upto_region 2 with (fail)
    have H1 := Lib.hid hT1
    have HQ1 := Lib.hid hq1
    have HG1 := Lib.hid hg1
    go_wp2_with fail
    refine (treeDiff_any sortsT v va L M w hL1 hq1.p).mono ?_
    rintro e w2 ⟨⟨PA, pc, ps, rfl, hps, hpo⟩, hb2⟩
    have hnd : ps.Nodup := by rw [hps.out]; exact diff_nodup _ _
    have hpl : ps.length ≤ 256 := by
      have h1 := diff_len (plainL L) (plainL M)
      have h2 := hL1.ok.len
      have h3 := hq1.p.ok.len
      rw [hps.out]; omega
    have HT2 := Lib.hid (hT1.below hb2)
    have HG2 := Lib.hid (hg1.below hb2)
    have HPO := Lib.hid hpo
    have HQ2 := Lib.hid (hq1.below hb2)
    have hs2 := hb2.size
    have hrlt : ∀ b, blkW R b → b < w.heap.size := fun b hb => hT1.rlt b hb
    have hmlt : mb < w.heap.size := hT1.mlt mb rfl
    have hglt := hg1.lt
    have hplen : ∀ x ∈ ps, x.length ≤ 96 := by
      intro x hx
      rw [hps.out] at hx
      unfold diffS at hx
      have h1 := ((union_keys _).2 x).1 (List.mem_filter.1 hx).1
      rcases List.mem_append.1 h1 with h1 | h1
      · obtain ⟨y, hy, rfl⟩ := List.mem_map.1 h1
        exact goodB_len (hL1.ok.good y hy).1
      · obtain ⟨y, hy, rfl⟩ := List.mem_map.1 h1
        exact goodB_len (hq1.p.ok.good y hy).1
    have HPL := Lib.hid hplen
    have HND := Lib.hid hnd
    have HRL := Lib.hid hrlt
    clear hnd hplen hrlt hT1 hg1 hpo
    go_wp2_with fail
    go_loopw [24] (fun iv wr => ∃ (i : Nat) (R1 : List (List UInt8 × RW)), i ≤ ps.length ∧ iv = .int .i64 (i : Int) ∧ TurnsAt wr (some mb) R1 ∧ Hid (∀ b, blkW R1 b → blkW R b ∨ w2.heap.size ≤ b) ∧ Hid (∀ q, rowsW R1 q = rowsW R q ++ (if q ∈ ps.take i then [(n, at0 (plainL M) q)] else [])) ∧ R1.length ≤ R.length + i ∧ Fr (fun b => some mb = some b ∨ blkW R b) w2 wr) (fun iv _ => ps.length - (intOf iv).toNat)
    case atStart => exact ⟨0, R, Nat.zero_le _, rfl, HT2.out, Lib.hid (fun b h => .inl h), Lib.hid (fun q => by simp), by omega, Fr.refl _ _⟩
    case round =>
      obtain ⟨i, R1, hi, rfl, hT, hbl, hro, hR1, hf⟩ := hrel
      have hsr := hf.size
      have HNS : Hid (∀ b, (some mb = some b ∨ blkW R b) → b < w.heap.size ∧ b ≠ gb) := Lib.hid (fun b hb => by
        rcases hb with e | hb
        · injection e with e
          exact e ▸ ⟨hmlt, fun e => hgC1 (e ▸ HCM.out)⟩
        · exact ⟨HRL.out b hb, fun e => hgC1 (e ▸ HCR.out b hb)⟩)
      have hgr : Blk wr gb 102 cs1 := HG2.out.fr hf (fun e => (HNS.out gb e).2 rfl)
      have hqr : TreeQ wr Ca1 va M := HQ2.out.fr hf (fun b hb e => by
        rcases e with e | e
        · injection e with e
          exact hd1 b (e ▸ HCM.out) hb
        · exact hd1 b (HCR.out b e) hb) (fun b hb => HT2.out.nob HG2.out b (.inr hb))
      by_cases hlt : i < ps.length
      · have hpr := own_fr HPO.out hf (fun g hg e => by
          have h1 := (HNS.out g e).1
          have h2 := (own_lt HPO.out g hg).1
          omega)
        obtain ⟨b, off, rfl, _, hbb, hc0⟩ := (Rd.of_own (Z := fun _ => True) hpr (fun _ _ _ => trivial)).atm (f := stv) (l := ps) (k := i) hlt
        obtain ⟨p, hp⟩ : ∃ p, p = ps[i] := ⟨_, rfl⟩
        have hpl96 := HPL.out p (hp ▸ List.getElem_mem hlt)
        rw [← hp] at hc0
        obtain ⟨r, hr⟩ : ∃ r, r = rowO R1 p := ⟨_, rfl⟩
        have hrow := hT.rowO_row p
        have hlook := hT.look p (by simp only [maxLen]; omega)
        have hrown := hT.rowO_own p
        have hrl : r.l.length ≤ 2000 := by
          have h1 : (rowsW R1 p).length = r.l.length := by rw [rowsW_O, List.length_map, hr]
          have h2 := hrr p
          rw [hro.out p, List.length_append] at h1
          split at h1 <;> simp at h1 <;> omega
        rw [← hr] at hrow hlook hrown
        have hgx := hgr
        have hcx : cs1[o + 1]? = some (.map (some mb)) := hc1
        have HNG : Hid (ablk r.A ≠ some gb) := Lib.hid (hrow.ne_blk hgr (by decide))
        have HLK : Hid (∀ W, Fr (fun b => ablk r.A = some b) wr W → (Instr.lookup 97 (.map (some mb)) (.string ⟨⟨p⟩⟩) false).run Tryz.prog W = .ok (.slice r.A r.l.length r.c) W) := Lib.hid (fun W hW => by
          have hmm : MapAt W Tryz.prog 9 mb (mapW R1) := by
            rcases hT.map with ⟨e, _⟩ | ⟨mb', e, hm⟩
            · cases e
            · injection e with e
              subst e
              exact hm.block (hW.block mb hm.lt (fun e => hrow.ne_map hm e))
          have := hmm.look Tryz.underlying9 Tryz.underlying97 (turn_zero W) p (by simp only [maxLen]; omega)
          rw [this, mapW_get, hr]
          congr 1
          unfold rowO
          rcases getR R1 p with _ | o <;> rfl)
        have HGP := Lib.hid (fun W (hW : Below wr.heap.size wr W) => treeGetP_any va M p W (hqr.p.below hW) (by omega))
        have hC0 : Fr (fun b => ablk r.A = some b) wr wr.drew := (Fr.refl _ wr).drew
        simp only [stv] at hc0
        have HT := Lib.hid hT
        have HROW := Lib.hid hrow
        have HROWN := Lib.hid hrown
        have HR := Lib.hid hr
        have HP := Lib.hid hp
        clear hlook hT hrow hrown hr hp hpr hqr
        go_wp2_with fail
        refine wp_region_line (.tell 0 (.tell 1 (.tell 2 (.tell 3 (.tell 4 (.tell 5 (.tell 6 (.tell 7 (.tell 8 (.tell 9 (.tell 10 (.tell 11 (.tell 12 (.tell 13 (.one 14 (.tell 15 (.one 16 (.one 17 .done)))))))))))))))))) (fun W => Fr (fun b => ablk r.A = some b) wr W) (by kernel_rfl) (by kernel_rfl) ?_
        refine pl_val (by (simp only [List.getElem?_toArray, List.getElem?_cons_zero]; rfl)) (by kernel_rfl) ⟨_, (by (intro w' hC; clear hC; (try go_simp); (try with_reducible rfl); done)), _, (by (simp only [Act.put, List.setIfInBounds_toArray, List.set_cons_zero, List.set_cons_succ]; rfl)), ?_⟩
        refine pl_val (by (simp only [List.getElem?_toArray, List.getElem?_cons_succ, List.getElem?_cons_zero]; rfl)) (by kernel_rfl) ⟨_, (by (intro w' hC; clear hC; (try go_simp); (try with_reducible rfl); done)), _, (by (simp only [Act.put, List.setIfInBounds_toArray, List.set_cons_zero, List.set_cons_succ]; rfl)), ?_⟩
        refine pl_val (by (simp only [List.getElem?_toArray, List.getElem?_cons_succ, List.getElem?_cons_zero]; rfl)) (by kernel_rfl) ⟨_, (by (intro w' hC; clear hC; (try go_simp); (try with_reducible rfl); done)), _, (by (simp only [Act.put, List.setIfInBounds_toArray, List.set_cons_zero, List.set_cons_succ]; rfl)), ?_⟩
        refine pl_val (by (simp only [List.getElem?_toArray, List.getElem?_cons_succ, List.getElem?_cons_zero]; rfl)) (by kernel_rfl) ⟨_, (by (intro w' hC; have q := (hgx.fr hC (fun e => HNG.out e)).cell (o + 1); rw [hcx] at q; clear hC; (try go_simp); (try with_reducible rfl); done)), _, (by (simp only [Act.put, List.setIfInBounds_toArray, List.set_cons_zero, List.set_cons_succ]; rfl)), ?_⟩
        refine pl_val (by (simp only [List.getElem?_toArray, List.getElem?_cons_succ, List.getElem?_cons_zero]; rfl)) (by kernel_rfl) ⟨_, (by (intro w' hC; clear hC; (try go_simp); (try with_reducible rfl); done)), _, (by (simp only [Act.put, List.setIfInBounds_toArray, List.set_cons_zero, List.set_cons_succ]; rfl)), ?_⟩
        refine pl_val (by (simp only [List.getElem?_toArray, List.getElem?_cons_succ, List.getElem?_cons_zero]; rfl)) (by kernel_rfl) ⟨_, (by (intro w' hC; clear hC; (try go_simp); (try with_reducible rfl); done)), _, (by (simp only [Act.put, List.setIfInBounds_toArray, List.set_cons_zero, List.set_cons_succ]; rfl)), ?_⟩
        refine pl_val (by (simp only [List.getElem?_toArray, List.getElem?_cons_succ, List.getElem?_cons_zero]; rfl)) (by kernel_rfl) ⟨_, (by (intro w' hC; clear hC; (try go_simp); (try with_reducible rfl); done)), _, (by (simp only [Act.put, List.setIfInBounds_toArray, List.set_cons_zero, List.set_cons_succ]; rfl)), ?_⟩
        refine pl_val (by (simp only [List.getElem?_toArray, List.getElem?_cons_succ, List.getElem?_cons_zero]; rfl)) (by kernel_rfl) ⟨_, (by (intro w' hC; clear hC; (try go_simp); (try with_reducible rfl); done)), _, (by (simp only [Act.put, List.setIfInBounds_toArray, List.set_cons_zero, List.set_cons_succ]; rfl)), ?_⟩
        refine pl_val (by (simp only [List.getElem?_toArray, List.getElem?_cons_succ, List.getElem?_cons_zero]; rfl)) (by kernel_rfl) ⟨_, (by (intro w' hC; have q := (hgx.fr hC (fun e => HNG.out e)).cell (o + 1); rw [hcx] at q; clear hC; (try go_simp); (try with_reducible rfl); done)), _, (by (simp only [Act.put, List.setIfInBounds_toArray, List.set_cons_zero, List.set_cons_succ]; rfl)), ?_⟩
        refine pl_val (by (simp only [List.getElem?_toArray, List.getElem?_cons_succ, List.getElem?_cons_zero]; rfl)) (by kernel_rfl) ⟨_, (by (intro w' hC; clear hC; (try go_simp); (try with_reducible rfl); done)), _, (by (simp only [Act.put, List.setIfInBounds_toArray, List.set_cons_zero, List.set_cons_succ]; rfl)), ?_⟩
        refine pl_val (by (simp only [List.getElem?_toArray, List.getElem?_cons_succ, List.getElem?_cons_zero]; rfl)) (by kernel_rfl) ⟨_, (by (intro w' hC; have q := HLK.out _ hC; clear hC; (try go_simp); (try with_reducible rfl); done)), _, (by (simp only [Act.put, List.setIfInBounds_toArray, List.set_cons_zero, List.set_cons_succ]; rfl)), ?_⟩
        refine pl_val (by (simp only [List.getElem?_toArray, List.getElem?_cons_succ, List.getElem?_cons_zero]; rfl)) (by kernel_rfl) ⟨_, (by (intro w' hC; clear hC; (try go_simp); (try with_reducible rfl); done)), _, (by (simp only [Act.put, List.setIfInBounds_toArray, List.set_cons_zero, List.set_cons_succ]; rfl)), ?_⟩
        refine pl_val (by (simp only [List.getElem?_toArray, List.getElem?_cons_succ, List.getElem?_cons_zero]; rfl)) (by kernel_rfl) ⟨_, (by (intro w' hC; clear hC; (try go_simp); (try with_reducible rfl); done)), _, (by (simp only [Act.put, List.setIfInBounds_toArray, List.set_cons_zero, List.set_cons_succ]; rfl)), ?_⟩
        refine pl_val (by (simp only [List.getElem?_toArray, List.getElem?_cons_succ, List.getElem?_cons_zero]; rfl)) (by kernel_rfl) ⟨_, (by (intro w' hC; clear hC; (try go_simp); (try with_reducible rfl); done)), _, (by (simp only [Act.put, List.setIfInBounds_toArray, List.set_cons_zero, List.set_cons_succ]; rfl)), ?_⟩
        refine pl_one (by (simp only [List.getElem?_toArray, List.getElem?_cons_succ, List.getElem?_cons_zero]; rfl)) hC0 ?_
        refine al_call (by kernel_rfl) (by go_simp; done) (HGP.out wr.drew (Below.refl _ _).drew) ?_
        rintro e w5 ⟨⟨A5, c5, l5, rfl, hl5, ho5⟩, hb5⟩
        replace hb5 : Below wr.heap.size wr w5 := (Below.refl _ _).drew.trans (hb5.mono (Nat.le_refl _))
        refine ⟨_, rfl, _, (by (simp only [Act.put, List.setIfInBounds_toArray, List.set_cons_zero, List.set_cons_succ]; rfl)), ?_⟩
        have hlen5 : l5.length ≤ 4096 := by
          rw [hl5.out]
          rcases hq : getR M p with _ | y
          · simp
          · exact HQS.out _ (getR_mem hq)
        obtain ⟨k5, hk5⟩ : ∃ k5, k5 = ((getR M p).map LV.k).getD 0 := ⟨_, rfl⟩
        rw [← hk5]
        have HPL5 : Hid (at0 (plainL M) p = (k5, l5)) := Lib.hid (by
          unfold at0
          rw [get_plain, hk5, hl5.out]
          rcases getR M p with _ | y <;> rfl)
        clear hk5 hl5
        refine pl_val (by (simp only [List.getElem?_toArray, List.getElem?_cons_succ, List.getElem?_cons_zero]; rfl)) (by kernel_rfl) ⟨_, (by (intro w' hC; clear hC; (try go_simp); (try with_reducible rfl); done)), _, (by (simp only [Act.put, List.setIfInBounds_toArray, List.set_cons_zero, List.set_cons_succ]; rfl)), ?_⟩
        refine pl_one (by (simp only [List.getElem?_toArray, List.getElem?_cons_succ, List.getElem?_cons_zero]; rfl)) (Fr.of_below hb5 _) ?_
        refine al_val (by kernel_rfl) ⟨_, _, (by (go_simp; first | done | exact ⟨rfl, rfl⟩)), _, (by (simp only [Act.put, List.setIfInBounds_toArray, List.set_cons_zero, List.set_cons_succ]; rfl)), ?_⟩
        obtain ⟨t, ht⟩ : ∃ t : TU, t = ⟨n, ⟨k5, ⟨A5, c5, l5⟩⟩⟩ := ⟨_, rfl⟩
        have hba : Below w5.heap.size w5 (w5.alloc (.cells #[.int .i64 (n : Int), .int .i64 k5, .slice A5 l5.length c5] 111)) := (Below.refl _ _).alloc (Nat.le_refl _) _
        have hb6 := hb5.trans (hba.mono hb5.size)
        have ry : Rd (w5.alloc (.cells #[.int .i64 (n : Int), .int .i64 k5, .slice A5 l5.length c5] 111)) (fun b => w5.heap.size ≤ b) 3 (some ⟨w5.heap.size, 0, none⟩) 1 (TU.cells t) := Rd.lit (by rw [ht]; rfl) (by rw [ht]; rfl) rfl
        have ho6 := OwB.below ho5 hba
        generalize w5.alloc (.cells #[.int .i64 (n : Int), .int .i64 k5, .slice A5 l5.length c5] 111) = w6 at *
        have hrow6 := HROW.out.below hb6
        refine pl_one (by (simp only [List.getElem?_toArray, List.getElem?_cons_succ, List.getElem?_cons_zero]; rfl)) (Fr.of_below hb6 _) ?_
        refine al_wp (by kernel_rfl) (wp_append_row w6 (.tmp 38) (.tmp 44) 109 rfl 0 111 i0 _ 3 40 Tryz.underlying109 hi0 hz0 hz1 hz2 rfl (by omega) rfl hrow6 rfl ry (fun u hu => tu_one [t] u (by simpa using hu)) (by simp only [maxLen]; omega) (by omega) (Nat.zero_le _) ?_)
        intro A7 c7 w7 hr7 hg7 hf7
        have hC7 : Fr (fun b => ablk r.A = some b) wr w7 := (Fr.of_below hb6 (fun b => ablk r.A = some b)).trans (Fr.of_grown hg7 (S := fun b => ablk r.A = some b) (fun _ _ e => e)) (fun _ _ e => e)
        obtain ⟨l8, hl8⟩ : ∃ l8, l8 = r.l ++ [t] := ⟨_, rfl⟩
        have hrl7 : r.l.length + 1 = l8.length := by rw [hl8]; simp
        have hr7' : Row w7 0 111 3 A7 l8.length c7 (l8.flatMap TU.cells) := by
          rw [hl8, List.flatMap_append, List.flatMap_cons, List.flatMap_nil, List.append_nil, ← hl8, ← hrl7]
          exact hr7
        have hown7 : ∀ x ∈ l8, OwB w7 0 (.slice x.o.x.A x.o.x.l.length x.o.x.c) x.o.x.l ∧ x.o.x.l.length ≤ 4096 := by
          intro x hx
          have n6 : NoB w6 (fun b => ablk r.A = some b) := fun b hb => NoB.row hrow6 (by decide) hb
          rw [hl8] at hx
          rcases List.mem_append.1 hx with hx | hx
          · have h1 := OwB.below (HROWN.out x hx).1 hb6
            exact ⟨own_fr h1 (Fr.of_grown hg7 (S := fun b => ablk r.A = some b) (fun _ _ e => e)) (n6.own h1), (HROWN.out x hx).2⟩
          · rw [List.mem_singleton.1 hx, ht]
            have h1 : OwB w6 0 (.slice A5 l5.length c5) l5 := own_base ho6 (fun _ _ => Nat.zero_le _)
            exact ⟨own_fr h1 (Fr.of_grown hg7 (S := fun b => ablk r.A = some b) (fun _ _ e => e)) (n6.own h1), hlen5⟩
        rw [hrl7]
        refine pl_end hC7 ?_
        simp only [Plan.count, Nat.reduceAdd, List.drop_succ_cons, List.drop_zero, Act.put, List.setIfInBounds_toArray, List.set_cons_zero, List.set_cons_succ]
        have hm7 : MapAt w7 Tryz.prog 9 mb (mapW R1) := by
          rcases HT.out.map with ⟨e, _⟩ | ⟨mb', e, hm⟩
          · cases e
          · injection e with e
            subst e
            exact hm.block (hC7.block mb hm.lt (fun e => HROW.out.ne_map hm e))
        obtain ⟨w8, hrun8, hm8, hg8, hs8⟩ := hm7.store Tryz.underlying9 Tryz.underlying97 p (by simp only [maxLen]; omega) (.slice A7 l8.length c7) (by
          show (R1.map _).length < _
          rw [List.length_map]; simp only [maxLen]; omega)
        have hrO : rowO R1 p = r := HR.out.symm
        have HT8 := Lib.hid (HT.out.put (p := p) (A' := A7) (c' := c7) (l' := l8) (by rw [hrO]; exact hC7) hr7' (by
          rw [hrO]
          intro g hg
          rcases hf7 g hg with e | e
          · exact .inl e
          · exact .inr (Nat.le_trans hb6.size e)) hown7 hm8 hg8)
        have HRO8 : Hid (∀ q, rowsW (putR R1 p ⟨A7, c7, l8⟩) q = rowsW R q ++ (if q ∈ ps.take (i + 1) then [(n, at0 (plainL M) q)] else [])) := Lib.hid (by
          rw [hl8, ← hrO, HP.out]
          refine rows_step HND.out hlt hro.out ?_
          rw [ht, ← HP.out]
          show (n, (k5, l5)) = _
          rw [HPL5.out])
        have HBL8 : Hid (∀ b, blkW (putR R1 p ⟨A7, c7, l8⟩) b → blkW R b ∨ w2.heap.size ≤ b) := Lib.hid (fun b hb => by
          rcases blkW_put hb with e | e
          · rcases hf7 b e with e | e
            · exact hbl.out b (TurnsAt.rowO_blk p (by rw [hrO]; exact e))
            · exact .inr (Nat.le_trans hsr (Nat.le_trans hb6.size e))
          · exact hbl.out b e)
        have HL8 : Hid ((putR R1 p ⟨A7, c7, l8⟩).length ≤ R.length + (i + 1)) := Lib.hid (by
          have := put_len_le R1 p ⟨A7, c7, l8⟩
          omega)
        have HF8 : Hid (Fr (fun b => some mb = some b ∨ blkW R b) w2 w8) := Lib.hid ((hf.trans hC7 (fun x hx e => by
          rcases hbl.out x (TurnsAt.rowO_blk p (by rw [hrO]; exact e)) with e2 | e2
          · exact .inr e2
          · omega)).trans (Fr.of_grown hg8 (S := fun b => some mb = some b) (fun _ _ e => e)) (fun _ _ e => .inl e))
        clear hrl7 hl8 hr7 hr7' hown7 hm7 hm8 hrow6 ho6 ho5 ry ht HRL HROW HROWN hrO hro hbl hgr hgx hcx HLK HGP
        go_wp2_with fail
        go_roundw
        case rel => exact ⟨i + 1, _, hlt, by go_num, HT8.out, HBL8, HRO8, HL8.out, HF8.out⟩
        case measure => simp [intOf]; omega
      · have e : i = ps.length := by omega
        subst e
        have hgw := hgr.frozen o
        have HQR := Lib.hid (treeCloneP_any (fun b => C b ∨ w.heap.size ≤ b) va M wr hqr.p (fun b hb => .inr (by have := HS1.out; omega)))
        have HGR := Lib.hid hgr
        clear hgr hqr
        go_wp2_with fail
        refine HQR.out.mono ?_
        rintro e w3 ⟨v3, rfl, hq3, hb3⟩
        have hg3 := HGR.out.below hb3
        have fz3 := hg3.frozen o
        have q3 := hg3.cell o
        have cz0 : cs1[o]? = some (.pointer v) := hc0
        rw [cz0] at q3
        have HG4 := Lib.hid (hg3.set_ o (.pointer v3))
        have hf4 : Fr (fun b => b = gb) w3 (w3.setCell ⟨gb, o, none⟩ (.pointer v3)) := (Fr.refl (fun b => b = gb) w3).setAt gb o rfl _
        have hT3 := hT.below hb3
        have n3 : NoB w3 (fun b => b = gb) := fun b hb => hb ▸ NoB.blk hg3 (by decide)
        have hgm : ∀ b, some mb = some b → ¬ b = gb := fun b e eb => by
          injection e with e
          exact hgC1 (eb ▸ e ▸ HCM.out)
        have hgrw : ∀ b, blkW R1 b → ¬ b = gb := fun b hb eb => by
          rcases hbl.out b hb with e | e
          · exact hgC1 (eb ▸ HCR.out b e)
          · have := hb2.size; omega
        have HT4 := Lib.hid (hT3.fr hf4 hgm hgrw n3)
        have HQ4 := Lib.hid (hq3.fr hf4 (fun b hb e => hgC1 (e ▸ hb)) n3)
        have HFE : Hid (Fr (fun b => b = gb ∨ some mb = some b ∨ blkW R b) w (w3.setCell ⟨gb, o, none⟩ (.pointer v3))) := Lib.hid
          ((((Fr.of_below hb2 (fun b => b = gb ∨ some mb = some b ∨ blkW R b)).trans hf (fun _ _ e => .inr e)).then_below hb3).trans hf4 (fun _ _ e => .inl e))
        have HRO : Hid (∀ p, rowsW R1 p = rowsW R p ++ (if at0 (plainL M) p = at0 (plainL L) p then [] else [(n, at0 (plainL M) p)])) := Lib.hid (fun p => by
          rw [hro.out p, List.take_length, hps.out]
          by_cases hm : p ∈ diffS (plainL L) (plainL M)
          · rw [if_pos hm, if_neg ((diff_mem _ _ p).1 hm)]
          · rw [if_neg hm, if_pos (Classical.not_not.1 (fun e => hm ((diff_mem _ _ p).2 e)))])
        have HCRR : Hid (∀ b, blkW R1 b → C b ∨ w.heap.size ≤ b) := Lib.hid (fun b hb => by
          rcases hbl.out b hb with e | e
          · exact HCR.out b e
          · exact .inr (by have := HS1.out; have := hb2.size; omega))
        clear hT hT3 hq3 hf hro hbl hgm hgrw n3 hf4 hg3
        go_wp2_with fail
        go_end0
        refine ⟨rfl, ⟨v3, some mb, R1, ?_, ⟨HQ4.out, HT4.out, fun b e => by injection e with e; exact e ▸ HCM.out, HCRR.out⟩, HRO, by omega⟩, ?_⟩
        · rw [← HCS.out]; exact HG4.out
        · exact HFW.out.trans HFE.out (fun x hx e => by
            rcases e with e | e | e
            · exact .inl e
            · exact .inr (.inl (HMS.out x hx e))
            · exact .inr (.inr e))

end Go.Proofs.YtdnljmncdbcgeaaGreat

/- watch: New, Note, Moments. -/
namespace Go.Proofs.YtdnljmncdbcgeaaGreat
open Go.RowKit Go.Maps

theorem last_map {α β : Type} (f : α → β) (v : α) (H : List α) : lastG (f v) (H.map f) = f (lastG v H) := by
  unfold lastG
  rw [List.getLast?_map]
  rcases H.getLast? with _ | x <;> rfl
/-- what a side has, of the trees of all moments -/
structure Told (L : List (List UInt8 × LV)) (R : List (List UInt8 × RW)) (H : List (List (List UInt8 × LP))) : Prop where
  last : Hid (plainL L = lastG [] H)
  rows : Hid (∀ p, rowsW R p = turnsG 0 (0, []) (H.map fun T => at0 T p))
  len : R.length ≤ H.length * 256
theorem Told.nil : Told [] [] [] := ⟨rfl, Lib.hid (fun _ => rfl), by simp⟩
theorem Told.step {L M : List (List UInt8 × LV)} {R R' : List (List UInt8 × RW)} {H : List (List (List UInt8 × LP))} (h : Told L R H) (hr : ∀ p, rowsW R' p = rowsW R p ++ (if at0 (plainL M) p = at0 (plainL L) p then [] else [(H.length, at0 (plainL M) p)])) (hl : R'.length ≤ R.length + 256) : Told M R' (H ++ [plainL M]) := by
  refine ⟨Lib.hid (last_snoc _ _ _).symm, Lib.hid (fun p => ?_), ?_⟩
  · rw [hr, h.rows.out, List.map_append, List.map_cons, List.map_nil, turns_snoc, h.last.out]
    rw [show ((0, []) : LP) = at0 [] p from rfl, last_map (fun T => at0 T p) [] H, List.length_map, Nat.zero_add]
  · have := h.len
    rw [List.length_append, List.length_singleton, Nat.add_mul]
    omega
theorem Told.rlen {L : List (List UInt8 × LV)} {R : List (List UInt8 × RW)} {H : List (List (List UInt8 × LP))} (h : Told L R H) (p : List UInt8) : (rowsW R p).length ≤ H.length := by
  rw [h.rows.out]
  have := turns_len (H.map fun T => at0 T p) 0 ((0, []) : LP)
  rwa [List.length_map] at this
/-- the log at block gb, of the trees of all moments -/
structure LogAt (w : World) (col : Nat → Nat) (gb : Nat) (H K : List (List (List UInt8 × LP))) : Prop where
  at_ : ∃ v0 m0 v1 m1 L0 R0 L1 R1, Blk w gb 102 #[.int .i64 (H.length : Int), .pointer v0, .map m0, .pointer v1, .map m1] ∧ SideAt w (fun b => col b = 3) v0 m0 L0 R0 ∧ SideAt w (fun b => col b = 4) v1 m1 L1 R1 ∧ Told L0 R0 H ∧ Told L1 R1 K
  col : col gb = 7
  len : H.length = K.length
theorem LogAt.below {w w' : World} {col : Nat → Nat} {gb : Nat} {H K : List (List (List UInt8 × LP))} (h : LogAt w col gb H K) (k : Below w.heap.size w w') : LogAt w' col gb H K := by
  obtain ⟨v0, m0, v1, m1, L0, R0, L1, R1, h1, h2, h3, h4, h5⟩ := h.at_
  exact ⟨⟨v0, m0, v1, m1, L0, R0, L1, R1, h1.below k, h2.below k, h3.below k, h4, h5⟩, h.col, h.len⟩
theorem LogAt.lt {w : World} {col : Nat → Nat} {gb : Nat} {H K : List (List (List UInt8 × LP))} (h : LogAt w col gb H K) : gb < w.heap.size := by
  obtain ⟨v0, m0, v1, m1, L0, R0, L1, R1, h1, _⟩ := h.at_
  exact h1.lt
theorem LogAt.fr {w w' : World} {col : Nat → Nat} {gb : Nat} {H K : List (List (List UInt8 × LP))} {S : Nat → Prop} (h : LogAt w col gb H K) (k : Fr S w w') (hs : ∀ b, S b → col b ≠ 3 ∧ col b ≠ 4 ∧ col b ≠ 7) (hn : NoB w S) : LogAt w' col gb H K := by
  obtain ⟨v0, m0, v1, m1, L0, R0, L1, R1, h1, h2, h3, h4, h5⟩ := h.at_
  exact ⟨⟨v0, m0, v1, m1, L0, R0, L1, R1, h1.fr k (fun e => (hs _ e).2.2 h.col), h2.fr k (fun b hb e => (hs b e).1 hb) hn, h3.fr k (fun b hb e => (hs b e).2.1 hb) hn, h4, h5⟩, h.col, h.len⟩
/-- other colours for blocks that are not yet there -/
theorem LogAt.recol {w : World} {col col' : Nat → Nat} {gb : Nat} {H K : List (List (List UInt8 × LP))} (h : LogAt w col gb H K) (hc : ∀ b, b < w.heap.size → col' b = col b) : LogAt w col' gb H K := by
  obtain ⟨v0, m0, v1, m1, L0, R0, L1, R1, h1, h2, h3, h4, h5⟩ := h.at_
  exact ⟨⟨v0, m0, v1, m1, L0, R0, L1, R1, h1, h2.mono (fun b hb e => by rw [hc b hb]; exact e), h3.mono (fun b hb e => by rw [hc b hb]; exact e), h4, h5⟩, by rw [hc gb h1.lt]; exact h.col, h.len⟩
/-- colour i for all that comes behind w -/
def paint (col : Nat → Nat) (w : World) (i : Nat) : Nat → Nat := fun b => if b < w.heap.size then col b else i
theorem paint_old {col : Nat → Nat} {w : World} {i b : Nat} (h : b < w.heap.size) : paint col w i b = col b := if_pos h
theorem paint_new {col : Nat → Nat} {w : World} {i b : Nat} (h : w.heap.size ≤ b) : paint col w i b = i := if_neg (by omega)
theorem LogAt.new (w : World) (col : Nat → Nat) (h : col w.heap.size = 7) : LogAt (w.alloc (.cells #[.int .i64 0, .pointer none, .map none, .pointer none, .map none] 102)) col w.heap.size [] [] :=
  ⟨⟨none, none, none, none, [], [], [], [], Blk.new _ _ _, SideAt.nil _ _, SideAt.nil _ _, Told.nil, Told.nil⟩, h, rfl⟩
theorem logNew_any (w : World) : Calls Tryz.prog 37 #[] w fun e w' => e = .returned (.pointer (some ⟨w.heap.size, 0, none⟩)) ∧ w' = w.alloc (.cells #[.int .i64 0, .pointer none, .map none, .pointer none, .map none] 102) := by
  go_enter Tryz.func37, Tryz.ntmps37
  go_wp2_with fail
  go_ret
  exact ⟨rfl, rfl⟩
theorem moments_any (gb : Nat) (col : Nat → Nat) (H K : List (List (List UInt8 × LP))) (w : World) (h : LogAt w col gb H K) : Calls Tryz.prog 39 #[.pointer (some ⟨gb, 0, none⟩)] w fun e w' => e = .returned (.int .i64 (H.length : Int)) ∧ Below w.heap.size w w' := by
  obtain ⟨v0, m0, v1, m1, L0, R0, L1, R1, h1, _⟩ := h.at_
  have q0 := h1.cell 0
  simp only [List.getElem?_toArray, List.getElem?_cons_zero] at q0
  clear h1 h
  go_enter Tryz.func39, Tryz.ntmps39
  go_wp2_with fail
  go_ret
  exact ⟨rfl, Below.refl _ _⟩
theorem moments_nil (w : World) : Calls Tryz.prog 39 #[.pointer none] w fun e w' => e = .returned (.int .i64 0) ∧ Below w.heap.size w w' := by
  go_enter Tryz.func39, Tryz.ntmps39
  go_wp2_with fail
  go_ret
  exact ⟨rfl, Below.refl _ _⟩
theorem note_nil (va vb : Option Addr) (w : World) : Calls Tryz.prog 38 #[.pointer none, .pointer va, .pointer vb] w fun e w' => e = .returned (.tuple #[]) ∧ Below w.heap.size w w' := by
  go_enter Tryz.func38, Tryz.ntmps38
  go_wp2_with fail
  refine bodyPost_ret (results_none rfl _ _ _) rfl ?_
  exact ⟨rfl, Below.refl _ _⟩

set_option maxRecDepth 100000 in
set_option maxHeartbeats 2000000 in
theorem logNote_any (col : Nat → Nat) (gb : Nat) (H K : List (List (List UInt8 × LP))) (Ca Cb : Nat → Prop) (va vb : Option Addr) (M N : List (List UInt8 × LV)) (w : World) (h : LogAt w col gb H K) (ha : TreeQ w Ca va M) (hb : TreeQ w Cb vb N)
    (hca : ∀ b, Ca b → col b ≠ 3 ∧ col b ≠ 4 ∧ col b ≠ 7) (hcb : ∀ b, Cb b → col b ≠ 3 ∧ col b ≠ 4 ∧ col b ≠ 7) (hH : H.length ≤ 300) :
    Calls Tryz.prog 38 #[.pointer (some ⟨gb, 0, none⟩), .pointer va, .pointer vb] w fun e w' => e = .returned (.tuple #[]) ∧ ∃ (col' : Nat → Nat) (S : Nat → Prop), Hid (∀ b, b < w.heap.size → col' b = col b) ∧ LogAt w' col' gb (H ++ [plainL M]) (K ++ [plainL N]) ∧ Fr S w w' ∧ NoB w S ∧ Hid (∀ b, S b → col b = 3 ∨ col b = 4 ∨ col b = 7) := by
  obtain ⟨v0, m0, v1, m1, L0, R0, L1, R1, h1, h2, h3, h4, h5⟩ := h.at_
  have hcol := h.col
  have HLN := Lib.hid h.len
  have HA := Lib.hid ha
  have HB := Lib.hid hb
  have H1 := Lib.hid h1
  have H2 := Lib.hid h2
  have H3 := Lib.hid h3
  have H4 := Lib.hid h4
  have H5 := Lib.hid h5
  have hgl := h1.lt
  clear h ha hb h1 h2 h3 h4 h5
  go_enter Tryz.func38, Tryz.ntmps38
  go_wp2_with fail
  refine wp_region_b 9 (by kernel_rfl) (by kernel_rfl) ?_
  simp only [List.take_succ_cons, List.take_zero, List.drop_succ_cons, List.drop_zero]
  refine lb_move _ (by kernel_rfl) rfl ⟨_, (by ((try simp [go_sem]); (try rfl); done)), _, (by (simp only [Act.put, List.setIfInBounds_toArray, List.set_cons_zero, List.set_cons_succ]; rfl)), ?_⟩
  refine lb_val (by kernel_rfl) ⟨_, (by (intro w' hC; clear hC; (try go_simp); (try with_reducible rfl); done)), _, (by (simp only [Act.put, List.setIfInBounds_toArray, List.set_cons_zero, List.set_cons_succ]; rfl)), ?_⟩
  refine lb_val (by kernel_rfl) ⟨_, (by (intro w' hC; clear hC; (try go_simp); (try with_reducible rfl); done)), _, (by (simp only [Act.put, List.setIfInBounds_toArray, List.set_cons_zero, List.set_cons_succ]; rfl)), ?_⟩
  refine lb_val (by kernel_rfl) ⟨_, (by (intro w' hC; clear hC; (try go_simp); (try with_reducible rfl); done)), _, (by (simp only [Act.put, List.setIfInBounds_toArray, List.set_cons_zero, List.set_cons_succ]; rfl)), ?_⟩
  refine lb_move _ (by kernel_rfl) rfl ⟨_, (by ((try simp [go_sem]); (try rfl); done)), _, (by (simp only [Act.put, List.setIfInBounds_toArray, List.set_cons_zero, List.set_cons_succ]; rfl)), ?_⟩
  refine lb_move _ (by kernel_rfl) rfl ⟨_, (by ((try simp [go_sem]); (try rfl); done)), _, (by (simp only [Act.put, List.setIfInBounds_toArray, List.set_cons_zero, List.set_cons_succ]; rfl)), ?_⟩
  refine lb_val (by kernel_rfl) ⟨_, (by (intro w' hC; clear hC; (try go_simp); (try with_reducible rfl); done)), _, (by (simp only [Act.put, List.setIfInBounds_toArray, List.set_cons_zero, List.set_cons_succ]; rfl)), ?_⟩
  refine lb_val (by kernel_rfl) ⟨_, (by (intro w' hC; clear hC; (try go_simp); (try with_reducible rfl); done)), _, (by (simp only [Act.put, List.setIfInBounds_toArray, List.set_cons_zero, List.set_cons_succ]; rfl)), ?_⟩
  refine lb_val (by kernel_rfl) ⟨_, (by (intro w' hC; (have q := (H1.out.below hC).cell 0; simp only [List.getElem?_toArray, List.getElem?_cons_zero] at q); clear hC; (try go_simp); (try with_reducible rfl); done)), _, (by (simp only [Act.put, List.setIfInBounds_toArray, List.set_cons_zero, List.set_cons_succ]; rfl)), ?_⟩
  refine .nil ?_
  intro w1 hb1
  have h1 := H1.out.below hb1
  go_wp2_with fail
  refine (sideNote_any gb 1 _ v0 m0 L0 M R0 (fun b => col b = 3) Ca va H.length w1 h1 rfl rfl (H2.out.below hb1) (HA.out.below hb1) (fun b e hc => (hca b hc).1 e) (by show ¬ col gb = 3; rw [hcol]; decide) (fun hc => (hca gb hc).2.2 hcol) (by have := H4.out.len; omega) (fun p => by have := H4.out.rlen p; omega) (by omega)).mono ?_
  rintro e w2 ⟨rfl, hN⟩
  obtain ⟨v0', m0', R0', hg2, hs2, hr2, hl2⟩ := hN.at_
  simp only [List.setIfInBounds_toArray, List.set_cons_zero, List.set_cons_succ, Nat.reduceAdd] at hg2
  have hf2 := hN.fr
  have hgl1 := h1.lt
  obtain ⟨col2, hcol2⟩ : ∃ col2, col2 = paint col w1 3 := ⟨_, rfl⟩
  have HC2 : Hid (∀ b, b < w1.heap.size → col2 b = col b) := Lib.hid (fun b hb => by rw [hcol2]; exact paint_old hb)
  have hs2' : SideAt w2 (fun b => col2 b = 3) v0' m0' M R0' := hs2.mono (fun b _ e => by
    show col2 b = 3
    by_cases hb : b < w1.heap.size
    · rw [HC2.out b hb]
      rcases e with e | e
      · exact e
      · omega
    · rw [hcol2]; exact paint_new (by omega))
  have hS0 : ∀ b, b = gb ∨ m0 = some b ∨ blkW R0 b → b < w1.heap.size ∧ (col b = 7 ∨ col b = 3) := by
    rintro b (e | e | e)
    · rw [e]; exact ⟨hgl1, .inl hcol⟩
    · exact ⟨Nat.lt_of_lt_of_le (H2.out.turns.mlt b e) hb1.size, .inr (H2.out.cm b e)⟩
    · exact ⟨Nat.lt_of_lt_of_le (H2.out.turns.rlt b e) hb1.size, .inr (H2.out.cr b e)⟩
  have n1 := (H2.out.below hb1).turns.nob h1
  have h32 : SideAt w2 (fun b => col2 b = 4) v1 m1 L1 R1 := ((H3.out.below hb1).mono (C' := fun b => col2 b = 4) (fun b hb e => (HC2.out b hb).trans e)).fr hf2 (fun b e hb => by
    obtain ⟨h1, h2⟩ := hS0 b hb
    have e' : col b = 4 := (HC2.out b h1).symm.trans e
    rcases h2 with h2 | h2 <;> rw [e'] at h2 <;> cases h2) n1
  have hq2 : TreeQ w2 (fun b => Cb b ∧ b < w1.heap.size) vb N := ((HB.out.below hb1).mono (C' := fun b => Cb b ∧ b < w1.heap.size) (fun b hb e => ⟨e, hb⟩)).fr hf2 (fun b e hb => by
    obtain ⟨h1, h2⟩ := hS0 b hb
    have h3 := hcb b e.1
    rcases h2 with h2 | h2
    · exact h3.2.2 h2
    · exact h3.1 h2) n1
  have HG2 := Lib.hid hg2
  have HS2 := Lib.hid hs2'
  have HT2 := Lib.hid h32
  have HQ2 := Lib.hid hq2
  have HF2 := Lib.hid hf2
  have HR2 : Hid (Told M R0' (H ++ [plainL M])) := Lib.hid (H4.out.step hr2.out hl2)
  have HZ0 := Lib.hid hS0
  have hcol2g : col2 gb = 7 := (HC2.out gb hgl1).trans hcol
  clear hN hs2 hs2' h32 hq2 hf2 hg2 hr2 hl2 hS0 n1 hcol2 h1
  go_wp2_with fail
  refine wp_region_b 9 (by kernel_rfl) (by kernel_rfl) ?_
  simp only [List.take_succ_cons, List.take_zero, List.drop_succ_cons, List.drop_zero]
  refine lb_move _ (by kernel_rfl) rfl ⟨_, (by ((try simp [go_sem]); (try rfl); done)), _, (by (simp only [Act.put, List.setIfInBounds_toArray, List.set_cons_zero, List.set_cons_succ]; rfl)), ?_⟩
  refine lb_val (by kernel_rfl) ⟨_, (by (intro w' hC; clear hC; (try go_simp); (try with_reducible rfl); done)), _, (by (simp only [Act.put, List.setIfInBounds_toArray, List.set_cons_zero, List.set_cons_succ]; rfl)), ?_⟩
  refine lb_val (by kernel_rfl) ⟨_, (by (intro w' hC; clear hC; (try go_simp); (try with_reducible rfl); done)), _, (by (simp only [Act.put, List.setIfInBounds_toArray, List.set_cons_zero, List.set_cons_succ]; rfl)), ?_⟩
  refine lb_val (by kernel_rfl) ⟨_, (by (intro w' hC; clear hC; (try go_simp); (try with_reducible rfl); done)), _, (by (simp only [Act.put, List.setIfInBounds_toArray, List.set_cons_zero, List.set_cons_succ]; rfl)), ?_⟩
  refine lb_move _ (by kernel_rfl) rfl ⟨_, (by ((try simp [go_sem]); (try rfl); done)), _, (by (simp only [Act.put, List.setIfInBounds_toArray, List.set_cons_zero, List.set_cons_succ]; rfl)), ?_⟩
  refine lb_move _ (by kernel_rfl) rfl ⟨_, (by ((try simp [go_sem]); (try rfl); done)), _, (by (simp only [Act.put, List.setIfInBounds_toArray, List.set_cons_zero, List.set_cons_succ]; rfl)), ?_⟩
  refine lb_val (by kernel_rfl) ⟨_, (by (intro w' hC; clear hC; (try go_simp); (try with_reducible rfl); done)), _, (by (simp only [Act.put, List.setIfInBounds_toArray, List.set_cons_zero, List.set_cons_succ]; rfl)), ?_⟩
  refine lb_val (by kernel_rfl) ⟨_, (by (intro w' hC; clear hC; (try go_simp); (try with_reducible rfl); done)), _, (by (simp only [Act.put, List.setIfInBounds_toArray, List.set_cons_zero, List.set_cons_succ]; rfl)), ?_⟩
  refine lb_val (by kernel_rfl) ⟨_, (by (intro w' hC; (have q := (HG2.out.below hC).cell 0; simp only [List.getElem?_toArray, List.getElem?_cons_zero] at q); clear hC; (try go_simp); (try with_reducible rfl); done)), _, (by (simp only [Act.put, List.setIfInBounds_toArray, List.set_cons_zero, List.set_cons_succ]; rfl)), ?_⟩
  refine .nil ?_
  intro w3 hb3
  have h3 := HG2.out.below hb3
  have hgl3 := h3.lt
  go_wp2_with fail
  refine (sideNote_any gb 3 _ v1 m1 L1 N R1 (fun b => col2 b = 4) (fun b => Cb b ∧ b < w1.heap.size) vb H.length w3 h3 rfl rfl (HT2.out.below hb3) (HQ2.out.below hb3) (fun b e hc => (hcb b hc.1).2.1 ((HC2.out b hc.2).symm.trans e)) (by show ¬ col2 gb = 4; rw [hcol2g]; decide) (fun hc => (hcb gb hc.1).2.2 hcol) (by have := H5.out.len; have := HLN.out; omega) (fun p => by have := H5.out.rlen p; have := HLN.out; omega) (by omega)).mono ?_
  rintro e w4 ⟨rfl, hN⟩
  obtain ⟨v1', m1', R1', hg4, hs4, hr4, hl4⟩ := hN.at_
  simp only [List.setIfInBounds_toArray, List.set_cons_zero, List.set_cons_succ, Nat.reduceAdd] at hg4
  have hf4 := hN.fr
  obtain ⟨col4, hcol4⟩ : ∃ col4, col4 = paint col2 w3 4 := ⟨_, rfl⟩
  have HC4 : Hid (∀ b, b < w3.heap.size → col4 b = col2 b) := Lib.hid (fun b hb => by rw [hcol4]; exact paint_old hb)
  have hs4' : SideAt w4 (fun b => col4 b = 4) v1' m1' N R1' := hs4.mono (fun b _ e => by
    show col4 b = 4
    by_cases hb : b < w3.heap.size
    · rw [HC4.out b hb]
      rcases e with e | e
      · exact e
      · omega
    · rw [hcol4]; exact paint_new (by omega))
  have hS1 : ∀ b, b = gb ∨ m1 = some b ∨ blkW R1 b → b < w3.heap.size ∧ (col2 b = 7 ∨ col2 b = 4) := by
    rintro b (e | e | e)
    · rw [e]; exact ⟨hgl3, .inl hcol2g⟩
    · exact ⟨Nat.lt_of_lt_of_le (HT2.out.turns.mlt b e) hb3.size, .inr (HT2.out.cm b e)⟩
    · exact ⟨Nat.lt_of_lt_of_le (HT2.out.turns.rlt b e) hb3.size, .inr (HT2.out.cr b e)⟩
  have n3 := (HT2.out.below hb3).turns.nob h3
  have h04 : SideAt w4 (fun b => col4 b = 3) v0' m0' M R0' := ((HS2.out.below hb3).mono (C' := fun b => col4 b = 3) (fun b hb e => (HC4.out b hb).trans e)).fr hf4 (fun b e hb => by
    obtain ⟨h1, h2⟩ := hS1 b hb
    have e' : col2 b = 3 := (HC4.out b h1).symm.trans e
    rcases h2 with h2 | h2 <;> rw [e'] at h2 <;> cases h2) n3
  have hcol4g : col4 gb = 7 := (HC4.out gb hgl3).trans hcol2g
  have HR4 : Hid (Told N R1' (K ++ [plainL N])) := Lib.hid (H5.out.step (by rw [← HLN.out]; exact hr4.out) hl4)
  have q4 := hg4.cell 0
  have fz4 := hg4.frozen 0
  simp only [List.getElem?_toArray, List.getElem?_cons_zero] at q4
  have hg5 := hg4.set_ 0 (.int .i64 ((H.length : Int) + 1))
  simp only [List.setIfInBounds_toArray, List.set_cons_zero] at hg5
  have hf5 : Fr (fun b => b = gb) w4 (w4.setCell ⟨gb, 0, none⟩ (.int .i64 ((H.length : Int) + 1))) := (Fr.refl (fun b => b = gb) w4).setAt gb 0 rfl _
  have n4 : NoB w4 (fun b => b = gb) := fun b hb => hb ▸ NoB.blk hg4 (by decide)
  have hs5 := hs4'.fr hf5 (fun b e hb => by have e' : col4 b = 4 := e; rw [hb, hcol4g] at e'; cases e') n4
  have h05 := h04.fr hf5 (fun b e hb => by have e' : col4 b = 3 := e; rw [hb, hcol4g] at e'; cases e') n4
  have HL5 : Hid (LogAt (w4.setCell ⟨gb, 0, none⟩ (.int .i64 ((H.length : Int) + 1))) col4 gb (H ++ [plainL M]) (K ++ [plainL N])) := Lib.hid
    ⟨⟨v0', m0', v1', m1', M, R0', N, R1', by rw [List.length_append, List.length_singleton]; exact hg5, h05, hs5, HR2.out, HR4.out⟩, hcol4g, by rw [List.length_append, List.length_append, HLN.out]; rfl⟩
  have hs13 := hb1.size
  have hs23 := HF2.out.size
  have hs33 := hb3.size
  have HCC : Hid (∀ b, b < w.heap.size → col4 b = col b) := Lib.hid (fun b hb => by
    rw [HC4.out b (by omega), HC2.out b (by omega)])
  have HFF : Hid (Fr (fun b => b = gb ∨ m0 = some b ∨ blkW R0 b ∨ m1 = some b ∨ blkW R1 b) w (w4.setCell ⟨gb, 0, none⟩ (.int .i64 ((H.length : Int) + 1)))) := Lib.hid
    (((((Fr.of_below hb1 (fun b => b = gb ∨ m0 = some b ∨ blkW R0 b ∨ m1 = some b ∨ blkW R1 b)).trans HF2.out (fun x _ e => by
      rcases e with e | e | e
      · exact .inl e
      · exact .inr (.inl e)
      · exact .inr (.inr (.inl e)))).then_below hb3).trans hf4 (fun x _ e => by
      rcases e with e | e | e
      · exact .inl e
      · exact .inr (.inr (.inr (.inl e)))
      · exact .inr (.inr (.inr (.inr e))))).trans hf5 (fun x _ e => .inl e))
  have HNB : Hid (NoB w (fun b => b = gb ∨ m0 = some b ∨ blkW R0 b ∨ m1 = some b ∨ blkW R1 b)) := Lib.hid (by
    have n0 := H2.out.turns.nob H1.out
    have n1 := H3.out.turns.nob H1.out
    rintro b (e | e | e | e | e)
    · exact n0 b (.inl e)
    · exact n0 b (.inr (.inl e))
    · exact n0 b (.inr (.inr e))
    · exact n1 b (.inr (.inl e))
    · exact n1 b (.inr (.inr e)))
  have HSC : Hid (∀ b, b = gb ∨ m0 = some b ∨ blkW R0 b ∨ m1 = some b ∨ blkW R1 b → col b = 3 ∨ col b = 4 ∨ col b = 7) := Lib.hid (by
    rintro b (e | e | e | e | e)
    · rw [e]; exact .inr (.inr hcol)
    · exact .inl (H2.out.cm b e)
    · exact .inl (H2.out.cr b e)
    · exact .inr (.inl (H3.out.cm b e))
    · exact .inr (.inl (H3.out.cr b e)))
  clear hN hs4 hs4' h04 hf4 hg4 hr4 hl4 hS1 n3 hg5 hf5 n4 hs5 h05 h3
  go_wp2_with fail
  go_end0
  exact ⟨rfl, col4, _, HCC, HL5.out, HFF.out, HNB.out, HSC⟩

end Go.Proofs.YtdnljmncdbcgeaaGreat
