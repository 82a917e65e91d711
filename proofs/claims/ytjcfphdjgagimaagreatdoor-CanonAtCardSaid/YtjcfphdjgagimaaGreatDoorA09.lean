/- tree.Tree.Set. -/
import Derived.Test.YtjcfphdjgagimaaGreatDoorA08
import Derived.Tactics2
import Derived.Shelf.SlSortCmp.NoneTotal
import Derived.Ground.SlsfProg
import Derived.Test.YtjcfphdjgagimaaGreatDoorProg
import Derived.ChangeMaps5
import Derived.Lib.SlicesCompact
import Derived.Shelf.Small.Bits
import Derived.Sort.OwnSorted

namespace Go.Proofs.YtjcfphdjgagimaaGreatDoor
open Go.RowKit Go.Maps

/-- what a call of Set leaves -/
structure TreeTo (w : World) (tb : Nat) (mo : Option Nat) (T : List (List UInt8 × LP)) (w' : World) : Prop where
  at_ : ∃ mo' L', TreeAt w' tb mo' L' ∧ Hid (plainL L' = T) ∧ ∀ m, mo' = some m → mo = some m ∨ w.heap.size ≤ m
  fr : Fr (fun g => g = tb ∨ mo = some g) w w'
theorem TreeTo.of {w w' : World} {tb : Nat} {mo : Option Nat} {L : List (List UInt8 × LV)} (h : TreeAt w tb mo L) (k : Below w.heap.size w w') : TreeTo w tb mo (plainL L) w' :=
  ⟨⟨mo, L, h.below k, rfl, fun _ e => .inl e⟩, Fr.of_below k _⟩
theorem plain_put (L : List (List UInt8 × LV)) (p : List UInt8) (o : LV) : plainL (putR L p o) = putR (plainL L) p o.p := (put_map LV.p L p o).symm
theorem plain_without (L : List (List UInt8 × LV)) (p : List UInt8) : plainL (withoutR L p) = withoutR (plainL L) p := (without_map LV.p L p).symm
theorem mapL_put (L : List (List UInt8 × LV)) (p : List UInt8) (o : LV) : mapL (putR L p o) = putR (mapL L) p o.v := (put_map LV.v L p o).symm
theorem mapL_without (L : List (List UInt8 × LV)) (p : List UInt8) : mapL (withoutR L p) = withoutR (mapL L) p := (without_map LV.v L p).symm
theorem map_eq_nil (w : World) (m : Option Nat) : (binOp .eql 64 (.map m) (.map none)).run Tryz.prog w = .ok (.bool m.isNone) w := run_eql_map_nil w _ _ _ m Tryz.underlying64
/-- bytes do not stand where a map's pointer stands -/
theorem By.not_map {w : World} {Z : Nat → Prop} {A : Option Addr} {l : List UInt8} {tb : Nat} {t : TypeId} {mo : Option Nat} (h : By w Z A l) (hb : Blk w tb t #[.map mo]) : By w (fun b => b ≠ tb) A l := by
  refine ⟨h.1, fun hn => ?_⟩
  obtain ⟨b, off, e, hz, hlt, hc⟩ := h.2 hn
  refine ⟨b, off, e, fun eb => ?_, hlt, hc⟩
  subst eb
  rcases l with _ | ⟨x, l⟩
  · simp at hn
  · have h1 := hc 0 (bv x) rfl
    rw [hb.cell] at h1
    rcases Nat.eq_zero_or_pos (off + 0) with h0 | h0
    · rw [h0] at h1; simp [bv] at h1
    · rw [Array.getElem?_eq_none (by simp; omega)] at h1; cases h1
/-- the map written -/
theorem TreeAt.stored {w w' : World} {tb mb : Nat} {L : List (List UInt8 × LV)} {p : List UInt8} {o : LV} (hb : Blk w tb 66 #[.map (some mb)]) (hm : MapAt w' Tryz.prog 9 mb (putR (mapL L) p o.v)) (hg : w.grownBy w' (some mb)) (hne : mb ≠ tb)
    {K : List (List UInt8 × Value)} (hm0 : MapAt w Tryz.prog 9 mb K) (hok : ∀ x ∈ L, OwB w 0 (.slice x.2.x.A x.2.x.l.length x.2.x.c) x.2.x.l) (ho : OwB w 0 (.slice o.x.A o.x.l.length o.x.c) o.x.l) (hpl : TreeOk (plainL (putR L p o))) : TreeAt w' tb (some mb) (putR L p o) := by
  have f : Fr (fun g => g = mb) w w' := Fr.of_grown hg (fun k _ e => by injection e with e; exact e.symm)
  refine ⟨hb.grown hg (by simpa using hne), .inr ⟨mb, rfl, by rw [mapL_put]; exact hm⟩, fun x hx => ?_, hpl⟩
  unfold putR at hx
  rcases mem_ins.1 hx with rfl | hx
  · exact own_fr ho f (fun g e1 e2 => TreeAt.own_map hm0 ho (by rw [e1, e2]))
  · exact own_fr (hok x (List.mem_filter.1 hx).1) f (fun g e1 e2 => TreeAt.own_map hm0 (hok x (List.mem_filter.1 hx).1) (by rw [e1, e2]))
theorem TreeAt.dropped {w w' : World} {tb mb : Nat} {L : List (List UInt8 × LV)} {p : List UInt8} (h : TreeAt w tb (some mb) L) (hm : MapAt w' Tryz.prog 9 mb (withoutR (mapL L) p)) (hg : w.grownBy w' (some mb)) (hpl : TreeOk (plainL (withoutR L p))) : TreeAt w' tb (some mb) (withoutR L p) := by
  have f : Fr (fun g => g = mb) w w' := Fr.of_grown hg (fun k _ e => by injection e with e; exact e.symm)
  refine ⟨h.blk.grown hg (fun e => h.ne e), .inr ⟨mb, rfl, by rw [mapL_without]; exact hm⟩, fun x hx => ?_, hpl⟩
  exact own_fr (h.own x (List.mem_filter.1 hx).1) f (fun g e1 e2 => h.ownT (h.own x (List.mem_filter.1 hx).1) (by decide) g e1 (.inr (by rw [e2])))


set_option maxRecDepth 100000 in
set_option maxHeartbeats 2000000 in
theorem treeSet_any (hS : SortsT) (tb : Nat) (mo : Option Nat) (L : List (List UInt8 × LV)) (p : List UInt8) (k : Int) (A : Option Addr) (c : Nat) (l : List UInt8) (Z : Nat → Prop) (w : World) (h : TreeAt w tb mo L) (hy : By w Z A l) (hp : p.length ≤ 1048576) (hn : l.length ≤ 140737488355328) :
    Calls Tryz.prog 21 #[.pointer (some ⟨tb, 0, none⟩), .string ⟨⟨p⟩⟩, .agg #[.int .i64 k, .slice A l.length c]] w fun e w' => e = .returned (.int .i64 (mayS (plainL L) p (k, l))) ∧ TreeTo w tb mo (setS (plainL L) p (k, l)) w' := by
  have HPL := Lib.hid (h.plain.set p (k, l))
  obtain ⟨M, hM⟩ : ∃ M, M = mayS (plainL L) p (k, l) := ⟨_, rfl⟩
  obtain ⟨T, hTT⟩ : ∃ T, T = setS (plainL L) p (k, l) := ⟨_, rfl⟩
  rw [← hM, ← hTT]
  rw [← hTT] at HPL
  have HM := Lib.hid hM
  have HTT : Hid (T = if M = 0 then doS (plainL L) p (k, l) else plainL L) := by show _ = _; rw [hTT, hM]; rfl
  clear hTT
  have HT := Lib.hid h
  have HY := Lib.hid hy
  have hb0 : Below w.heap.size w (w.alloc (.cells #[.int .i64 k, .slice A l.length c] 46)) := (by repeat (first | exact Below.refl _ _ | refine Below.alloc ?_ (by simp) _ | refine Below.setCell ?_ (by simp) _ | refine Below.drew ?_))
  have x0 := Blk.new w 46 #[.int .i64 k, .slice A l.length c]
  have q0 : (w.alloc (.cells #[.int .i64 k, .slice A l.length c] 46)).cell? ⟨w.heap.size, 0, none⟩ = some (.int .i64 k) := x0.cell 0
  have q1 : (w.alloc (.cells #[.int .i64 k, .slice A l.length c] 46)).cell? ⟨w.heap.size, 1, none⟩ = some (.slice A l.length c) := x0.cell 1
  have hpw : goodB p = false → Hid (M = 23) := fun e => by show _ = _; rw [HM.out]; unfold mayS; rw [if_pos e]
  clear h hy hM
  go_enter Tryz.func21, Tryz.ntmps21
  go_wp2_with fail
  clear q0 q1
  refine (treemay_any hS tb mo L p k A c l _ (HT.out.below hb0) hp hn).mono ?_
  rintro e w1 ⟨rfl, hb1⟩
  rw [← HM.out]
  have hw1 := hb0.trans (hb1.mono hb0.size)
  have x1 := x0.below hb1
  clear x0 hb0 hb1
  by_cases hM0 : M = 0
  · have hMb : (M != 0) = false := by simp [hM0]
    have hk : k = 0 ∨ k = 1 ∨ k = 2 := by
      have e := HM.out
      rw [hM0] at e
      unfold mayS at e
      split at e
      · simp at e
      · split at e
        · rename_i h2; exact absurd e.symm h2
        · rename_i h2
          exact checkN_kind (by simpa using h2)
    have hg : goodB p = true := by
      rcases hgg : goodB p with _ | _
      · have := (hpw hgg).out; omega
      · rfl
    have hp96 := goodB_len hg
    have HT2 : Hid (T = doS (plainL L) p (k, l)) := by show _ = _; rw [HTT.out, if_pos hM0]
    clear HTT HM hpw hg
    have q0 : w1.cell? ⟨w.heap.size, 0, none⟩ = some (.int .i64 k) := x1.cell 0
    have h1 := HT.out.below hw1
    have c0 := h1.c0
    by_cases hk0 : k = 0
    · have HT3 : Hid (T = withoutR (plainL L) p) := by show _ = _; rw [HT2.out]; unfold doS; rw [if_pos hk0]
      clear HT2 hk
      subst hk0
      rcases h1.map with ⟨rfl, rfl⟩ | ⟨mb, rfl, hm⟩
      · have hdr := fun ty => Maps.drop_nil (w := w1) str_keyed Tryz.underlying64 (Go.WideMaps.keyOf_string_mk Tryz.underlying9 (s := ⟨⟨p⟩⟩) (by show p.length ≤ _; simp only [maxLen]; omega)) ty
        subst hM0
        clear h1
        go_wp2_with fail
        go_ret
        refine ⟨rfl, ?_⟩
        rw [HT3.out]
        exact TreeTo.of HT.out hw1
      · obtain ⟨w2, hrun, hm2, hg2, _⟩ := hm.drop Tryz.underlying9 Tryz.underlying64 p (by simp only [maxLen]; omega) 0
        have HD := Lib.hid (h1.dropped hm2 hg2 (by rw [plain_without, ← HT3.out]; exact HPL.out))
        subst hM0
        clear h1 hm hm2
        go_wp2_with fail
        go_ret
        refine ⟨rfl, ⟨some mb, withoutR L p, HD.out, by show _ = _; rw [HT3.out, plain_without], fun m e => .inl e⟩, ?_⟩
        exact (Fr.of_below hw1 _).trans (Fr.of_grown hg2 (S := fun g => some mb = some g) (fun k _ e => e)) (fun x _ e => .inr e)
    · have HT3 : Hid (T = putR (plainL L) p (k, l)) := by show _ = _; rw [HT2.out]; unfold doS; rw [if_neg hk0]
      have hk0b : (k == 0) = false := by simpa using hk0
      clear HT2 hk hk0
      subst hM0
      rcases h1.map with ⟨rfl, rfl⟩ | ⟨mb, rfl, hm⟩
      · have hmm := @run_makeMap Tryz.prog
        have hmn := fun W m => map_eq_nil W m
        have f0 := h1.f0
        have hsz := hw1.size
        have htl := h1.blk.lt
        have htw := HT.out.blk.lt
        have b3 : Blk ((w1.setCell ⟨tb, 0, none⟩ (.map (some w1.heap.size))).alloc (.map #[] 0)) tb 66 #[.map (some w1.heap.size)] := by simpa using (h1.blk.set_ 0 (.map (some w1.heap.size))).alloc (.map #[] 0)
        have fS : Fr (fun g => g = tb) w1 ((w1.setCell ⟨tb, 0, none⟩ (.map (some w1.heap.size))).alloc (.map #[] 0)) := ((Fr.refl (fun g => g = tb) w1).setAt tb 0 rfl _).alloc _
        have hm3 : MapAt ((w1.setCell ⟨tb, 0, none⟩ (.map (some w1.heap.size))).alloc (.map #[] 0)) Tryz.prog 9 w1.heap.size (mapL []) := by have := MapAt.made (w1.setCell ⟨tb, 0, none⟩ (.map (some w1.heap.size))) Tryz.prog 9; rwa [show (w1.setCell ⟨tb, 0, none⟩ (.map (some w1.heap.size))).heap.size = w1.heap.size by simp [World.setCell]] at this
        have hx3 := x1.fr fS (by omega)
        have HY3 := Lib.hid (show By ((w1.setCell ⟨tb, 0, none⟩ (.map (some w1.heap.size))).alloc (.map #[] 0)) (fun _ => True) A l from (((HY.out.below hw1).not_map h1.blk).fr fS (fun b _ hz e => hz e)).mono (fun _ _ _ => trivial))
        have hfr3 := (Fr.of_below hw1 (fun g => g = tb ∨ (none : Option Nat) = some g)).trans fS (fun x _ e => .inl e)
        have hne3 : w1.heap.size ≠ tb := by omega
        have hbig : w.heap.size ≤ w1.heap.size := hsz
        have hok3 : ∀ x ∈ ([] : List (List UInt8 × LV)), OwB ((w1.setCell ⟨tb, 0, none⟩ (.map (some w1.heap.size))).alloc (.map #[] 0)) 0 (.slice x.2.x.A x.2.x.l.length x.2.x.c) x.2.x.l := by simp
        go_wp2_with fail
        clear q0 x1 f0 fS hmm c0
        generalize (w1.setCell ⟨tb, 0, none⟩ (.map (some w1.heap.size))).alloc (.map #[] 0) = w3 at *
        generalize hmbe : w1.heap.size = mb at *
        clear hmbe
        refine wp_region_m [true, true, true, true, true, true, false] (fun W => Below w3.heap.size w3 W) (by kernel_rfl) (by kernel_rfl) ?_
        simp only [List.length_cons, List.length_nil, Nat.zero_add, Nat.reduceAdd, List.take_succ_cons, List.take_zero, List.drop_succ_cons, List.drop_zero]
        refine mx_move _ (by kernel_rfl) rfl ⟨_, (by ((try simp [go_sem]); (try rfl); done)), _, (by (simp only [Act.put, List.setIfInBounds_toArray, List.set_cons_zero, List.set_cons_succ]; rfl)), ?_⟩
        refine mx_val (by kernel_rfl) ⟨_, (by (intro w' hC; clear hC; (try go_simp); (try with_reducible rfl); done)), _, (by (simp only [Act.put, List.setIfInBounds_toArray, List.set_cons_zero, List.set_cons_succ]; rfl)), ?_⟩
        refine mx_val (by kernel_rfl) ⟨_, (by (intro w' hC; clear hC; (try go_simp); (try with_reducible rfl); done)), _, (by (simp only [Act.put, List.setIfInBounds_toArray, List.set_cons_zero, List.set_cons_succ]; rfl)), ?_⟩
        refine mx_val (by kernel_rfl) ⟨_, (by (intro w' hC; (have q := (b3.below hC).cell 0; simp at q); clear hC; (try go_simp); (try with_reducible rfl); done)), _, (by (simp only [Act.put, List.setIfInBounds_toArray, List.set_cons_zero, List.set_cons_succ]; rfl)), ?_⟩
        refine mx_move _ (by kernel_rfl) rfl ⟨_, (by ((try simp [go_sem]); (try rfl); done)), _, (by (simp only [Act.put, List.setIfInBounds_toArray, List.set_cons_zero, List.set_cons_succ]; rfl)), ?_⟩
        refine mx_val (by kernel_rfl) ⟨_, (by (intro w' hC; (have q0 := (hx3.below hC).cell 0; have q1 := (hx3.below hC).cell 1; simp at q0 q1); clear hC; (try go_simp); (try with_reducible rfl); done)), _, (by (simp only [Act.put, List.setIfInBounds_toArray, List.set_cons_zero, List.set_cons_succ]; rfl)), ?_⟩
        refine mx_call ((Below.refl _ _).drew) (by kernel_rfl) ?_ (leafClone_any k A c l _ w3.drew (HY3.out.drew) hn) ?_
        · (go_simp; done)
        rintro e w4 ⟨A4, c4, l4, rfl, hl4, ho4, hb4⟩
        have hlow4 : Below w3.heap.size w3 w4 := (Below.refl _ _).drew.trans (hb4.mono (Nat.le_refl _))
        refine ⟨_, rfl, _, (by (simp only [Act.put, List.setIfInBounds_toArray, List.set_cons_zero, List.set_cons_succ]; rfl)), ?_⟩
        refine mx_end hlow4 ?_
        have b4 := b3.below hlow4
        have hml := HPL.out.len
        rw [HT3.out, show putR (plainL ([] : List (List UInt8 × LV))) p (k, l) = plainL (putR ([] : List (List UInt8 × LV)) p ⟨k, ⟨A4, c4, l4⟩⟩) by rw [plain_put]; show _ = putR (plainL ([] : List (List UInt8 × LV))) p (k, l4); rw [hl4.out]] at HPL
        have hlen3 : (mapL ([] : List (List UInt8 × LV))).length < maxLen := by
          have h5 := (HT.out.plain).len
          simp only [mapL, plainL, List.length_map] at h5 ⊢
          simp only [maxLen]
          omega
        obtain ⟨w5, hrun5, hm5, hg5, _⟩ := (hm3.below hlow4).store Tryz.underlying9 Tryz.underlying64 p (by simp only [maxLen]; omega) (.agg #[.int .i64 k, .slice A4 l4.length c4]) hlen3
        have hlt3 := hm3.lt
        have htb3 := b3.lt
        obtain ⟨A4', c4', e4, hlc4, hcm4, hA4⟩ := ho4.form
        obtain ⟨rfl, rfl⟩ : A4 = A4' ∧ c4 = c4' := by simpa using e4
        have hoo : OwB w4 0 (.slice A4 l4.length c4) l4 := own_base ho4 (fun _ _ => Nat.zero_le _)
        have HD := Lib.hid (TreeAt.stored (o := ⟨k, ⟨A4, c4, l4⟩⟩) b4 hm5 hg5 hne3 (hm3.below hlow4) (fun x hx => OwB.below (hok3 x hx) hlow4) hoo HPL.out)
        have HPP : Hid (plainL (putR ([] : List (List UInt8 × LV)) p ⟨k, ⟨A4, c4, l4⟩⟩) = T) := by show _ = _; rw [plain_put, HT3.out]; show putR (plainL ([] : List (List UInt8 × LV))) p (k, l4) = _; rw [hl4.out]
        have hfr5 := (hfr3.then_below hlow4)
        clear b4 hm5 hm3 hok3 hoo ho4 b3 hx3 HY3
        go_wp2_with fail
        go_ret
        refine ⟨rfl, ⟨some mb, _, HD.out, HPP, fun m e => by injection e with e; subst e; exact .inr hbig⟩, ?_⟩
        exact hfr5.trans (Fr.of_grown hg5 (S := fun g => some mb = some g) (fun k _ e => e)) (fun x hx e => by injection e with e; omega)
      · have b3 := h1.blk
        have hmn := fun W m => map_eq_nil W m
        have hne3 : mb ≠ tb := fun e => h1.ne (by rw [e])
        have hok3 := h1.own
        have hm3 := hm
        have hfr3 := Fr.of_below hw1 (fun g => g = tb ∨ (some mb : Option Nat) = some g)
        have hx3 := x1
        have HY3 := Lib.hid (show By w1 (fun _ => True) A l from (HY.out.below hw1).mono (fun _ _ _ => trivial))
        go_wp2_with fail
        clear q0 x1 c0 hm
        obtain ⟨w3, rfl⟩ : ∃ x : World, x = w1 := ⟨_, rfl⟩
        refine wp_region_m [true, true, true, true, true, true, false] (fun W => Below w3.heap.size w3 W) (by kernel_rfl) (by kernel_rfl) ?_
        simp only [List.length_cons, List.length_nil, Nat.zero_add, Nat.reduceAdd, List.take_succ_cons, List.take_zero, List.drop_succ_cons, List.drop_zero]
        refine mx_move _ (by kernel_rfl) rfl ⟨_, (by ((try simp [go_sem]); (try rfl); done)), _, (by (simp only [Act.put, List.setIfInBounds_toArray, List.set_cons_zero, List.set_cons_succ]; rfl)), ?_⟩
        refine mx_val (by kernel_rfl) ⟨_, (by (intro w' hC; clear hC; (try go_simp); (try with_reducible rfl); done)), _, (by (simp only [Act.put, List.setIfInBounds_toArray, List.set_cons_zero, List.set_cons_succ]; rfl)), ?_⟩
        refine mx_val (by kernel_rfl) ⟨_, (by (intro w' hC; clear hC; (try go_simp); (try with_reducible rfl); done)), _, (by (simp only [Act.put, List.setIfInBounds_toArray, List.set_cons_zero, List.set_cons_succ]; rfl)), ?_⟩
        refine mx_val (by kernel_rfl) ⟨_, (by (intro w' hC; (have q := (b3.below hC).cell 0; simp at q); clear hC; (try go_simp); (try with_reducible rfl); done)), _, (by (simp only [Act.put, List.setIfInBounds_toArray, List.set_cons_zero, List.set_cons_succ]; rfl)), ?_⟩
        refine mx_move _ (by kernel_rfl) rfl ⟨_, (by ((try simp [go_sem]); (try rfl); done)), _, (by (simp only [Act.put, List.setIfInBounds_toArray, List.set_cons_zero, List.set_cons_succ]; rfl)), ?_⟩
        refine mx_val (by kernel_rfl) ⟨_, (by (intro w' hC; (have q0 := (hx3.below hC).cell 0; have q1 := (hx3.below hC).cell 1; simp at q0 q1); clear hC; (try go_simp); (try with_reducible rfl); done)), _, (by (simp only [Act.put, List.setIfInBounds_toArray, List.set_cons_zero, List.set_cons_succ]; rfl)), ?_⟩
        refine mx_call ((Below.refl _ _).drew) (by kernel_rfl) ?_ (leafClone_any k A c l _ w3.drew (HY3.out.drew) hn) ?_
        · (go_simp; done)
        rintro e w4 ⟨A4, c4, l4, rfl, hl4, ho4, hb4⟩
        have hlow4 : Below w3.heap.size w3 w4 := (Below.refl _ _).drew.trans (hb4.mono (Nat.le_refl _))
        refine ⟨_, rfl, _, (by (simp only [Act.put, List.setIfInBounds_toArray, List.set_cons_zero, List.set_cons_succ]; rfl)), ?_⟩
        refine mx_end hlow4 ?_
        have b4 := b3.below hlow4
        have hml := HPL.out.len
        rw [HT3.out, show putR (plainL L) p (k, l) = plainL (putR L p ⟨k, ⟨A4, c4, l4⟩⟩) by rw [plain_put]; show _ = putR (plainL L) p (k, l4); rw [hl4.out]] at HPL
        have hlen3 : (mapL L).length < maxLen := by
          have h5 := (HT.out.plain).len
          simp only [mapL, plainL, List.length_map] at h5 ⊢
          simp only [maxLen]
          omega
        obtain ⟨w5, hrun5, hm5, hg5, _⟩ := (hm3.below hlow4).store Tryz.underlying9 Tryz.underlying64 p (by simp only [maxLen]; omega) (.agg #[.int .i64 k, .slice A4 l4.length c4]) hlen3
        have hlt3 := hm3.lt
        have htb3 := b3.lt
        obtain ⟨A4', c4', e4, hlc4, hcm4, hA4⟩ := ho4.form
        obtain ⟨rfl, rfl⟩ : A4 = A4' ∧ c4 = c4' := by simpa using e4
        have hoo : OwB w4 0 (.slice A4 l4.length c4) l4 := own_base ho4 (fun _ _ => Nat.zero_le _)
        have HD := Lib.hid (TreeAt.stored (o := ⟨k, ⟨A4, c4, l4⟩⟩) b4 hm5 hg5 hne3 (hm3.below hlow4) (fun x hx => OwB.below (hok3 x hx) hlow4) hoo HPL.out)
        have HPP : Hid (plainL (putR L p ⟨k, ⟨A4, c4, l4⟩⟩) = T) := by show _ = _; rw [plain_put, HT3.out]; show putR (plainL L) p (k, l4) = _; rw [hl4.out]
        have hfr5 := (hfr3.then_below hlow4)
        clear b4 hm5 hm3 hok3 hoo ho4 b3 hx3 HY3
        go_wp2_with fail
        go_ret
        refine ⟨rfl, ⟨some mb, _, HD.out, HPP, fun m e => by injection e with e; subst e; exact .inl rfl⟩, ?_⟩
        exact hfr5.trans (Fr.of_grown hg5 (S := fun g => some mb = some g) (fun k _ e => e)) (fun x hx e => by exact .inr e)
  · have hMb : (M != 0) = true := by simpa using hM0
    obtain rfl : T = plainL L := by rw [HTT.out, if_neg hM0]
    clear hM0 HM hpw
    go_wp2_with fail
    go_ret
    exact ⟨rfl, TreeTo.of HT.out hw1⟩

end Go.Proofs.YtjcfphdjgagimaaGreatDoor

/- tenderref08: Same. -/
namespace Go.Proofs.YtjcfphdjgagimaaGreatDoor
open Go.RowKit

theorem plain_snoc (L : List (List UInt8 × LV)) (i : Nat) (hi : i < L.length) : plainL (L.take (i + 1)) = plainL (L.take i) ++ [(L[i].1, L[i].2.p)] := by
  unfold plainL
  rw [List.take_succ_eq_append_getElem hi, List.map_append]
  rfl
theorem plain_len (L : List (List UInt8 × LV)) : (plainL L).length = L.length := by simp [plainL]

end Go.Proofs.YtjcfphdjgagimaaGreatDoor

/- A region in the text's order whose operations each yield ONE value and at most make memory (ClassF's steps without a drawn order). No program. -/
namespace Go.Proofs.YtjcfphdjgagimaaGreatDoor
open Go.RowKit

section
variable {P : Program} {ops : Array Oper} {W : World} {Q : Exit → Act → World → Prop} {Lq : Act → Prop}
end
end Go.Proofs.YtjcfphdjgagimaaGreatDoor

/- tenderref08: Diff. -/
namespace Go.Proofs.YtjcfphdjgagimaaGreatDoor
open Go.RowKit

end Go.Proofs.YtjcfphdjgagimaaGreatDoor

/- tree.Tree: Items, Size. -/
namespace Go.Proofs.YtjcfphdjgagimaaGreatDoor
open Go.RowKit

/-- items, each of the call's own, bytes and all -/
structure ItsOwn (w : World) (base : Nat) (A : Option Addr) (c : Nat) (M : List (List UInt8 × LV)) : Prop where
  row : OwI w base A c M
  byt : ∀ x ∈ M, OwB w base (.slice x.2.x.A x.2.x.l.length x.2.x.c) x.2.x.l
theorem ItsOwn.below {w w' : World} {base : Nat} {A : Option Addr} {c : Nat} {M : List (List UInt8 × LV)} (h : ItsOwn w base A c M) (k : Below w.heap.size w w') : ItsOwn w' base A c M := ⟨h.row.below k, fun x hx => own_below (h.byt x hx) k⟩
theorem ItsOwn.base {w : World} {base base' : Nat} {A : Option Addr} {c : Nat} {M : List (List UInt8 × LV)} (h : ItsOwn w base A c M) (hb : base' ≤ base) : ItsOwn w base' A c M :=
  ⟨own_base h.row (fun g hg => Nat.le_trans hb (h.row.lt g hg).1), fun x hx => own_base (h.byt x hx) (fun g hg => Nat.le_trans hb ((h.byt x hx).lt g hg).1)⟩
theorem ItsOwn.its {w : World} {base : Nat} {A : Option Addr} {c : Nat} {M : List (List UInt8 × LV)} (h : ItsOwn w base A c M) (hl : M.length ≤ 1099511627776) (ht : ∀ x ∈ M, x.1.length ≤ 1048576 ∧ x.2.x.l.length ≤ 140737488355328) : Its w A M :=
  h.row.its (fun x hx => by
    obtain ⟨A', c', e, h1, h2, _⟩ := own_form (h.byt x hx)
    injection e with e1 e2 e3
    subst e1 e3
    exact ⟨(h.byt x hx).rd.mono (fun _ _ _ => trivial), h1, h2⟩) hl ht
end Go.Proofs.YtjcfphdjgagimaaGreatDoor

/-
  DERIVED: THE SHELF's CONTRACTS AT THIS DUMP, IN PLAIN WORDS (tools/lay-plain.mjs out of 'TryzLays.lean', which tools/lay-shelf.mjs wrote): THE SAME DECLARATIONS UNDER THE SAME NAMES: 'import', 'namespace', 'open', 'def', 'theorem' AND NOTHING ELSE: no command of the shelf's: FOR A HAND-IN. Each laying: the table of numbers ('.._ren') and one theorem, a field a fact of the dump's own or the kernel's comparison; each contract: ONE APPLICATION.
-/
namespace Go.Proofs
open Go.Shelf
def Tryz.sortT_ren : Go.Shelf.Ren := ⟨fun | 6 => 91 | 15 => 105 | 14 => 104 | 28 => 121 | 29 => 86 | 20 => 113 | 21 => 114 | 22 => 115 | 23 => 116 | 24 => 117 | 25 => 118 | 26 => 119 | 27 => 120 | 46 => 125 | 47 => 126 | 48 => 127 | 49 => 128 | 50 => 129 | 57 => 130 | n => n, fun | 22 => 84 | 24 => 9 | 25 => 71 | 3 => 3 | 39 => 126 | 0 => 0 | 53 => 76 | 55 => 57 | 4 => 4 | 46 => 140 | 45 => 139 | 50 => 144 | 5 => 5 | 9 => 9 | 66 => 149 | 70 => 153 | 76 => 155 | 77 => 156 | n => n, fun | n => n⟩
theorem Tryz.sortT : Go.Proofs.SlLaysF.n6 Tryz.prog Tryz.sortT_ren := {
  mixed := by kernel_rfl
  f6 := ⟨Tryz.f91.name, by decide, Tryz.func91.trans (congrArg some (by kernel_rfl))⟩
  f14 := ⟨Tryz.f104.name, by decide, Tryz.func104.trans (congrArg some (by kernel_rfl))⟩
  f15 := Tryz.func105.trans (congrArg some (by kernel_rfl))
  f20 := ⟨Tryz.f113.name, by decide, Tryz.func113.trans (congrArg some (by kernel_rfl))⟩
  f21 := ⟨Tryz.f114.name, by decide, Tryz.func114.trans (congrArg some (by kernel_rfl))⟩
  f22 := ⟨Tryz.f115.name, by decide, Tryz.func115.trans (congrArg some (by kernel_rfl))⟩
  f23 := ⟨Tryz.f116.name, by decide, Tryz.func116.trans (congrArg some (by kernel_rfl))⟩
  f24 := ⟨Tryz.f117.name, by decide, Tryz.func117.trans (congrArg some (by kernel_rfl))⟩
  f25 := ⟨Tryz.f118.name, by decide, Tryz.func118.trans (congrArg some (by kernel_rfl))⟩
  f26 := ⟨Tryz.f119.name, by decide, Tryz.func119.trans (congrArg some (by kernel_rfl))⟩
  f27 := ⟨Tryz.f120.name, by decide, Tryz.func120.trans (congrArg some (by kernel_rfl))⟩
  f28 := Tryz.func121.trans (congrArg some (by kernel_rfl))
  f29 := Tryz.func86.trans (congrArg some (by kernel_rfl))
  f46 := ⟨Tryz.f125.name, by decide, Tryz.func125.trans (congrArg some (by kernel_rfl))⟩
  f47 := Tryz.func126.trans (congrArg some (by kernel_rfl))
  f48 := Tryz.func127.trans (congrArg some (by kernel_rfl))
  f49 := ⟨Tryz.f128.name, by decide, Tryz.func128.trans (congrArg some (by kernel_rfl))⟩
  f50 := ⟨Tryz.f129.name, by decide, Tryz.func129.trans (congrArg some (by kernel_rfl))⟩
  f57 := ⟨Tryz.f130.name, by decide, Tryz.func130.trans (congrArg some (by kernel_rfl))⟩
  t0 := Tryz.underlying0
  a0 := Tryz.isAgg0
  z0 := Tryz.sizeOf0
  v0 := Tryz.zeroValue0
  t3 := Tryz.underlying3
  a3 := Tryz.isAgg3
  z3 := Tryz.sizeOf3
  v3 := Tryz.zeroValue3
  t4 := Tryz.underlying4
  a4 := Tryz.isAgg4
  z4 := Tryz.sizeOf4
  v4 := Tryz.zeroValue4
  t5 := Tryz.underlying5
  a5 := Tryz.isAgg5
  z5 := Tryz.sizeOf5
  v5 := Tryz.zeroValue5
  t9 := Tryz.underlying9
  a9 := Tryz.isAgg9
  z9 := Tryz.sizeOf9
  v9 := Tryz.zeroValue9
  t22 := Tryz.underlying84
  a22 := Tryz.isAgg84
  z22 := Tryz.sizeOf84
  v22 := Tryz.zeroValue84
  a24 := Tryz.isAgg9
  z24 := Tryz.sizeOf9
  t25 := Tryz.underlying71
  a25 := Tryz.isAgg71
  z25 := Tryz.sizeOf71
  v25 := Tryz.zeroValue71
  t39 := Tryz.underlying126
  a39 := Tryz.isAgg126
  z39 := Tryz.sizeOf126
  v39 := Tryz.zeroValue126
  t45 := Tryz.underlying139
  a45 := Tryz.isAgg139
  z45 := Tryz.sizeOf139
  v45 := Tryz.zeroValue139
  t46 := Tryz.underlying140
  a46 := Tryz.isAgg140
  z46 := Tryz.sizeOf140
  v46 := Tryz.zeroValue140
  t50 := Tryz.underlying144
  a50 := Tryz.isAgg144
  z50 := Tryz.sizeOf144
  v50 := Tryz.zeroValue144
  t53 := Tryz.underlying76
  a53 := Tryz.isAgg76
  z53 := Tryz.sizeOf76
  v53 := Tryz.zeroValue76
  t55 := Tryz.underlying57
  a55 := Tryz.isAgg57
  z55 := Tryz.sizeOf57
  v55 := Tryz.zeroValue57
  t66 := Tryz.underlying149
  a66 := Tryz.isAgg149
  z66 := Tryz.sizeOf149
  v66 := Tryz.zeroValue149
  t70 := Tryz.underlying153
  a70 := Tryz.isAgg153
  z70 := Tryz.sizeOf153
  v70 := Tryz.zeroValue153
  t76 := Tryz.underlying155
  a76 := Tryz.isAgg155
  z76 := Tryz.sizeOf155
  v76 := Tryz.zeroValue155
  t77 := Tryz.underlying156
  a77 := Tryz.isAgg156
  z77 := Tryz.sizeOf156
  v77 := Tryz.zeroValue156 }
end Go.Proofs

/- tree.Tree.Clone, New without items. -/
namespace Go.Proofs.YtjcfphdjgagimaaGreatDoor
open Go.RowKit Go.Maps Go.Shelf

end Go.Proofs.YtjcfphdjgagimaaGreatDoor

/- api.Leaf: as an argument. -/
namespace Go.Proofs.YtjcfphdjgagimaaGreatDoor
open Go.RowKit Go.WideShapes Go.ChangeShapes Go.ChangeAt Go.Deep Go.Joins

section
variable {H : Type} {enc : TypeId × Value → H} {w : World} {spare : Nat → Bool} {held : Bool}
/-- what is known of a leaf -/
structure LV.okAt (w : World) (Z : Nat → Prop) (o : LV) : Prop where
  x : o.x.ok w Z
  len : o.x.l.length ≤ 140737488355328
  k : -9223372036854775808 ≤ o.k ∧ o.k < 9223372036854775808
theorem list2 {α : Type} {l : List α} (h : l.length = 2) : ∃ a0 a1, l = [a0, a1] := by
  match l, h with
  | [a0, a1], _ => exact ⟨_, _, rfl⟩
set_option maxRecDepth 100000 in
theorem open_leaf {n : Nat} {cs : List Value} {x : DataW H × List MemPlace} (h : DataW.trod enc Tryz.prog w 0 spare held n 46 cs = some x) (hw : Within 46 x) :
    ∃ o : LV, cs = o.cells ∧ o.okAt w (fun b => b < w.heap.size) := by
  obtain ⟨ys, n', hcl, hyl, hf⟩ := open_st Tryz.underlying46 (by kernel_rfl) h (by kernel_rfl) hw
  obtain ⟨a0, a1, rfl⟩ := list2 hcl
  obtain ⟨y0, y1, rfl⟩ := list2 hyl
  obtain ⟨k, e, _, wk⟩ := DataW.trod_int Tryz.underlying3 (hf 0 _ _ _ rfl rfl rfl).1
  obtain rfl := List.singleton_inj.1 e
  obtain ⟨b, rfl, hb, hbl⟩ := open_bv (hf 1 _ _ _ rfl rfl rfl).1 (hf 1 _ _ _ rfl rfl rfl).2
  have bk := i64_bd wk
  exact ⟨⟨k, b⟩, rfl, hb, hbl, bk⟩
end
end Go.Proofs.YtjcfphdjgagimaaGreatDoor

/- api.Item in slices: as an argument. -/
namespace Go.Proofs.YtjcfphdjgagimaaGreatDoor
open Go.RowKit Go.WideShapes Go.ChangeShapes Go.ChangeAt Go.ChangeMaps Go.Deep Go.Joins

/-- items as they come in -/
structure ItA (w : World) (A : Option Addr) (L : List (List UInt8 × LV)) : Prop where
  rd : Rd w (fun b => b < w.heap.size) 3 A L.length (L.flatMap itemC)
  ok : ∀ x ∈ L, x.2.okAt w (fun b => b < w.heap.size) ∧ x.1.length ≤ 140737488355328
  len : L.length ≤ 140737488355328
section
variable {H : Type} {enc : TypeId × Value → H} {w : World} {spare : Nat → Bool} {held : Bool}
/-- a struct of fields of any number of cells -/
theorem open_sti {t : TypeId} {fs : Array Field} {N : Nat} (hs : Tryz.prog.underlying t = some (.struct fs)) {n : Nat} {cs : List Value} {x : DataW H × List MemPlace} (h : DataW.trod enc Tryz.prog w 0 spare held n t cs = some x) (hC : Tryz.prog.cellsOf t = N) (hw : Within t x) :
    ∃ (ys : List (DataW H × List MemPlace)) (n' : Nat), cs.length = N ∧ ys.length = fs.size ∧
      ∀ (j : Nat) (f : Field) (y : DataW H × List MemPlace), fs[j]? = some f → ys[j]? = some y → DataW.trod enc Tryz.prog w 0 spare held n' f.type ((cs.drop f.offset).take (Tryz.prog.cellsOf f.type)) = some y ∧ Within f.type y := by
  obtain ⟨xs, n', _, hx, hl, hlen, hg⟩ := DataW.trod_struct hs h
  rw [hC] at hl
  refine ⟨xs, n', hl, hlen, fun j f y hj hy => ⟨by rw [hg j f hj, hy], fun k hk => hw k ?_⟩⟩
  rw [hx]
  simp only [DataW.weights, hs]
  refine DataW.weights_mem_each (j := j) (t := f.type) (d := y.1) ?_ ?_ k hk
  · rw [List.getElem?_map]
    have : fs.toList[j]? = some f := by simpa using hj
    rw [this]; rfl
  · rw [List.getElem?_map, hy]; rfl
theorem list3i {α : Type} {l : List α} (h : l.length = 3) : ∃ a0 a1 a2, l = [a0, a1, a2] := by
  match l, h with
  | [a0, a1, a2], _ => exact ⟨_, _, _, rfl⟩
theorem str_withini {b : List UInt8} {p : List MemPlace} (hw : Within 9 ((DataW.lit (Lit.string b) : DataW H), p)) : b.length ≤ 140737488355328 := by
  have h1 := hw b.length (by simp [DataW.weights])
  have h2 := reachBytes_lt
  omega
set_option maxRecDepth 100000 in
theorem open_item {n : Nat} {cs : List Value} {x : DataW H × List MemPlace} (h : DataW.trod enc Tryz.prog w 0 spare held n 48 cs = some x) (hw : Within 48 x) :
    ∃ o : List UInt8 × LV, cs = itemC o ∧ o.2.okAt w (fun b => b < w.heap.size) ∧ o.1.length ≤ 140737488355328 := by
  obtain ⟨ys, n', hcl, hyl, hf⟩ := open_sti (N := 3) Tryz.underlying48 h (by kernel_rfl) hw
  obtain ⟨a0, a1, a2, rfl⟩ := list3i hcl
  obtain ⟨y0, y1, rfl⟩ := list2 hyl
  obtain ⟨f0, w0⟩ := hf 0 _ _ rfl rfl
  obtain ⟨f1, w1⟩ := hf 1 _ _ rfl rfl
  have c0 : Tryz.prog.cellsOf 9 = 1 := by kernel_rfl
  have c1 : Tryz.prog.cellsOf 46 = 2 := by kernel_rfl
  replace f0 : DataW.trod enc Tryz.prog w 0 spare held n' 9 (([a0, a1, a2].drop 0).take (Tryz.prog.cellsOf 9)) = some y0 := f0
  replace f1 : DataW.trod enc Tryz.prog w 0 spare held n' 46 (([a0, a1, a2].drop 1).take (Tryz.prog.cellsOf 46)) = some y1 := f1
  rw [c0] at f0
  rw [c1] at f1
  obtain ⟨p, e, hx0, _⟩ := DataW.trod_string Tryz.underlying9 f0
  obtain ⟨o, e2, ho⟩ := open_leaf f1 w1
  obtain rfl : a0 = .string p := by simpa using e
  obtain ⟨k, xx⟩ := o
  obtain ⟨rfl, rfl⟩ : a1 = .int .i64 k ∧ a2 = .slice xx.A xx.l.length xx.c := by simpa [LV.cells] using e2
  rw [hx0] at w0
  exact ⟨(p.data.toList, ⟨k, xx⟩), rfl, ho, str_withini w0⟩
set_option maxRecDepth 100000 in
theorem open_items {n : Nat} {v : Value} {x : DataW H × List MemPlace} (h : DataW.trod enc Tryz.prog w 0 spare held n 22 [v] = some x) (hw : Within 22 x) :
    ∃ (A : Option Addr) (c : Nat) (l : List (List UInt8 × LV)), v = .slice A l.length c ∧ ItA w A l := by
  obtain ⟨A, c, l, rfl, _, _, h3, h4, h5⟩ := open_sl (w := w) (enc := enc) (spare := spare) (held := held) itemC (fun o => o.2.okAt w (fun b => b < w.heap.size) ∧ o.1.length ≤ 140737488355328) 3 48 (t := 22) (e := 48) Tryz.underlying22 (by kernel_rfl) (by kernel_rfl) (by omega) (fun n cs x hx hx2 => open_item hx hx2) h hw
  refine ⟨A, c, l, rfl, h3, h4, ?_⟩
  have := reachBytes_lt
  omega
end
end Go.Proofs.YtjcfphdjgagimaaGreatDoor

/- What trees keep while items are set, plainly; what a tree's writes leave. -/
namespace Go.Proofs.YtjcfphdjgagimaaGreatDoor
open Go.RowKit Go.Maps

theorem par_under {q : List UInt8} (h : (parT q).2 = true) : underB q (parT q).1 = true := by
  unfold parT at h ⊢
  split at h
  · rename_i hc
    rw [if_pos hc]
    simp only [Bool.and_eq_true, decide_eq_true_eq] at hc
    obtain ⟨hg, hl⟩ := hc
    have h1 : (cutL q).dropLast ≠ [] := by intro e; have := congrArg List.length e; rw [List.length_dropLast] at this; simp at this; omega
    have h2 := cut_paste (cutL q).dropLast h1 (fun y hy => cut_no q y ((List.dropLast_sublist _).subset hy))
    have hne : cutL q ≠ [] := fun e => by rw [e] at hl; simp at hl
    have h3 : preB q (pasteL (cutL q).dropLast) = true := (preB_iff _ _).2 ⟨[(cutL q).getLast hne], by simp, by rw [h2, List.dropLast_concat_getLast hne]⟩
    show underB q (pasteL (cutL q).dropLast) = true
    unfold underB
    rw [hg, good_pre hg h3, h3]; rfl
  · simp at h
theorem under_irr (p : List UInt8) : underB p p = false := by
  rcases h : underB p p with _ | _
  · rfl
  · have := (under_order (b := p) h).1
    rw [cmpT_self] at this
    omega
/-- above each path that has a leaf stands a Dir -/
def DirsOk (T : List (List UInt8 × LP)) : Prop := ∀ x ∈ T, (parT x.1).2 = true → kindL (getR T (parT x.1).1) = 2
theorem DirsOk.nil : DirsOk [] := by simp [DirsOk]
theorem DirsOk.set {T : List (List UInt8 × LP)} (h : DirsOk T) (p : List UInt8) (l : LP) : DirsOk (setS T p l) := by
  unfold setS
  split
  · rename_i hm
    unfold mayS at hm
    split at hm
    · simp at hm
    · split at hm
      · rename_i hc; exact absurd hm hc
      · split at hm
        · simp at hm
        · rename_i hb
          have hbe : l.1 ≠ 2 → ∀ x ∈ T, underB x.1 p = false := fun h2 x hx => by
            rcases hu : underB x.1 p with _ | _
            · rfl
            · refine absurd ⟨h2, ?_⟩ hb
              intro e
              have : x.1 ∈ (keysR T).filter fun q => underB q p := List.mem_filter.2 ⟨List.mem_map.2 ⟨x, hx, rfl⟩, hu⟩
              rw [e] at this
              cases this
          unfold doS
          split
          · rename_i h0
            intro x hx hp
            have hxT := (List.mem_filter.1 hx).1
            have h1 := h x hxT hp
            rw [getR_without, if_neg]
            · exact h1
            · intro e
              have h2 := par_under hp
              rw [e, hbe (by omega) x hxT] at h2
              cases h2
          · rename_i h0
            rw [if_neg h0] at hm
            split at hm
            · simp at hm
            · rename_i hk
              intro x hx hp
              unfold putR at hx
              rcases mem_ins.1 hx with rfl | hx
              · dsimp only at hp ⊢
                have h1 : kindL (getR T (parT p).1) = 2 := by
                  by_cases e : kindL (getR T (parT p).1) = 2
                  · exact e
                  · exact absurd ⟨hp, e⟩ hk
                rw [getR_put, if_neg]
                · exact h1
                · intro e
                  have h2 := par_under hp
                  rw [e, under_irr] at h2
                  cases h2
              · have hxT := (List.mem_filter.1 hx).1
                have h1 := h x hxT hp
                rw [getR_put]
                split
                · rename_i e
                  by_cases h2 : l.1 = 2
                  · show l.1 = 2
                    exact h2
                  · have h3 := par_under hp
                    rw [e, hbe h2 x hxT] at h3
                    cases h3
                · exact h1
  · exact h
/-- one item behind the other set -/
def playS (T : List (List UInt8 × LP)) (l : List (List UInt8 × LP)) : List (List UInt8 × LP) := l.foldl (fun T x => setS T x.1 x.2) T
theorem play_snoc (T l : List (List UInt8 × LP)) (x : List UInt8 × LP) : playS T (l ++ [x]) = setS (playS T l) x.1 x.2 := by simp [playS]
/-- the reference's step, plainly -/
theorem plain_step (L : List (List UInt8 × LV)) (p : List UInt8) (v : LV) : plainL (if mayS (plainL L) p v.p = 0 then putI L p v else L) = setS (plainL L) p v.p := by
  unfold setS
  split
  · unfold putI doS
    show plainL (if v.k = 0 then _ else _) = if v.k = 0 then _ else _
    split
    · exact plain_without L p
    · exact plain_put L p v
  · rfl

/-- what is read at cells that are no maps does not lie in the tree's own blocks -/
theorem TreeAt.apart {w : World} {tb : Nat} {mo : Option Nat} {K : List (List UInt8 × LV)} (t : TreeAt w tb mo K) {Z : Nat → Prop} {size n : Nat} {A : Option Addr} {xs : List Value} (h : Rd w Z size A n xs) (hx : ∀ u ∈ xs, ∀ m, u ≠ .map m) : Rd w (fun b => Z b ∧ b ≠ tb ∧ mo ≠ some b) size A n xs := by
  refine ⟨h.1, fun hn => ?_⟩
  obtain ⟨b, off, e, hz, hlt, hc⟩ := h.2 hn
  refine ⟨b, off, e, ?_, hlt, hc⟩
  have h0 : 0 < xs.length := by rw [h.1]; exact hn
  have hc0 := hc 0 _ (List.getElem?_eq_getElem h0)
  have hne := hx _ (List.getElem_mem h0)
  refine ⟨hz, fun eb => ?_, fun em => ?_⟩
  · subst eb
    rw [t.blk.cell] at hc0
    rcases Nat.eq_zero_or_pos (off + 0) with h1 | h1
    · rw [h1] at hc0
      simp at hc0
      exact hne _ hc0.symm
    · rw [Array.getElem?_eq_none (by simp; omega)] at hc0; cases hc0
  · rcases t.map with ⟨e0, _⟩ | ⟨mb, e0, hm⟩
    · rw [e0] at em; cases em
    · rw [e0] at em
      injection em with em
      subst em
      obtain ⟨D, ⟨es, clock, h1, _⟩, _⟩ := hm.own
      simp [World.cell?, h1] at hc0
theorem bv_no_map (l : List UInt8) : ∀ u ∈ l.map bv, ∀ m, u ≠ .map m := by
  intro u hu m e
  obtain ⟨x, _, rfl⟩ := List.mem_map.1 hu
  simp [bv] at e
theorem item_no_map (L : List (List UInt8 × LV)) : ∀ u ∈ L.flatMap itemC, ∀ m, u ≠ .map m := by
  intro u hu m e
  obtain ⟨x, _, hx⟩ := List.mem_flatMap.1 hu
  subst e
  simp [itemC, stv] at hx
/-- rows of items stay, whatever is set on a tree -/
theorem Its.set {w w' : World} {A : Option Addr} {L K : List (List UInt8 × LV)} {tb : Nat} {mo : Option Nat} (h : Its w A L) (t : TreeAt w tb mo K) (k : Fr (fun g => g = tb ∨ mo = some g) w w') : Its w' A L := by
  refine ⟨((t.apart h.rd (item_no_map L)).fr k fun b _ hz e => ?_).mono (fun _ _ _ => trivial), fun x hx => ?_, h.len, h.txt⟩
  · exact e.elim hz.2.1 hz.2.2
  · have h1 := h.ok x hx
    exact ⟨((t.apart h1.1 (bv_no_map _)).fr k fun b _ hz e => e.elim hz.2.1 hz.2.2).mono (fun _ _ _ => trivial), h1.2⟩
theorem ItA.fr {w w' : World} {A : Option Addr} {L : List (List UInt8 × LV)} {S : Nat → Prop} (h : ItA w A L) (k : Fr S w w') (hS : ∀ b, b < w.heap.size → ¬ S b) : ItA w' A L := by
  refine ⟨(h.rd.fr k fun b hb _ => hS b hb).mono (fun b hb _ => hb), fun x hx => ?_, h.len⟩
  have h1 := h.ok x hx
  exact ⟨⟨(h1.1.x.fr k fun b hb _ => hS b hb).mono (fun b hb _ => hb), h1.1.len, h1.1.k⟩, h1.2⟩
theorem ItA.below {w w' : World} {A : Option Addr} {L : List (List UInt8 × LV)} (h : ItA w A L) (k : Below w.heap.size w w') : ItA w' A L := h.fr (Fr.of_below k (fun _ => False)) (fun _ _ h => h)
theorem ItA.at_ {w : World} {A : Option Addr} {L : List (List UInt8 × LV)} {i : Nat} (h : ItA w A L) (hi : i < L.length) :
    ∃ b off, A = some ⟨b, off, none⟩ ∧ b < w.heap.size ∧ w.cell? ⟨b, off + i * 3, none⟩ = some (stv L[i].1) ∧ w.cell? ⟨b, off + i * 3 + 1, none⟩ = some (.int .i64 L[i].2.k) ∧ w.cell? ⟨b, off + i * 3 + 2, none⟩ = some (.slice L[i].2.x.A L[i].2.x.l.length L[i].2.x.c) := by
  obtain ⟨b, off, hA, _, hb, hc⟩ := h.rd.2 (by omega)
  have hg : ∀ j, j < 3 → (L.flatMap itemC)[i * 3 + j]? = (itemC L[i])[j]? := fun j hj => flat_get (k := 3) item_len L i j hi hj
  refine ⟨b, off, hA, hb, hc _ _ (hg 0 (by omega)), ?_, ?_⟩
  · rw [Nat.add_assoc]; exact hc _ _ (hg 1 (by omega))
  · rw [Nat.add_assoc]; exact hc _ _ (hg 2 (by omega))
end Go.Proofs.YtjcfphdjgagimaaGreatDoor

/- tree.New. -/
namespace Go.Proofs.YtjcfphdjgagimaaGreatDoor
open Go.RowKit Go.Maps

theorem treeNew_nil (w : World) :
    Calls Tryz.prog 19 #[.slice none 0 0] w fun e w' => e = .returned (.tuple #[.pointer (some ⟨w.heap.size, 0, none⟩), .int .i64 0]) ∧ TreeAt w' w.heap.size none [] ∧ Below w.heap.size w w' := by
  go_enter Tryz.func19, Tryz.ntmps19
  go_wp2_with fail
  go_loopw [12] (fun iv wr => iv = .int .i64 0 ∧ wr = w.alloc (.cells #[.map none] 66)) (fun _ _ => 0)
  case atStart => exact ⟨rfl, rfl⟩
  case round =>
    obtain ⟨rfl, rfl⟩ := hrel
    go_wp2_with fail
    go_ret2
    exact ⟨rfl, TreeAt.new _, (by repeat (first | exact Below.refl _ _ | refine Below.alloc ?_ (by simp) _ | refine Below.setCell ?_ (by simp) _ | refine Below.drew ?_))⟩
end Go.Proofs.YtjcfphdjgagimaaGreatDoor

/- tenderlaw08: lives, Light. -/
namespace Go.Proofs.YtjcfphdjgagimaaGreatDoor
open Go.RowKit Go.Maps

/-- are there few items, and small ones? -/
def bytesI (L : List (List UInt8 × LV)) : Nat := (L.map fun x => x.2.x.l.length).sum
def lightI (L : List (List UInt8 × LV)) : Bool := L.all (fun x => decide (x.1.length ≤ 200)) && (decide (L.length ≤ 200) && decide (bytesI L ≤ 20000))
theorem bytesI_take (L : List (List UInt8 × LV)) (i : Nat) (hi : i < L.length) : bytesI (L.take (i + 1)) = bytesI (L.take i) + L[i].2.x.l.length := by
  unfold bytesI
  rw [List.take_succ_eq_append_getElem hi, List.map_append, List.sum_append]
  simp
theorem bytesI_le (K : Nat) : ∀ (L : List (List UInt8 × LV)), (∀ o ∈ L, o.2.x.l.length ≤ K) → bytesI L ≤ L.length * K
  | [], _ => by simp [bytesI]
  | o :: l, h => by
    have h1 := h o (by simp)
    have h2 := bytesI_le K l (fun o ho => h o (by simp [ho]))
    simp only [bytesI, List.map_cons, List.sum_cons, List.length_cons, Nat.add_mul] at h2 ⊢
    omega
theorem bytesI_take_le (K : Nat) (l : List (List UInt8 × LV)) (i : Nat) (h : ∀ o ∈ l, o.2.x.l.length ≤ K) : bytesI (l.take i) ≤ i * K := by
  have h1 := bytesI_le K (l.take i) (fun o ho => h o (List.mem_of_mem_take ho))
  have h2 : (l.take i).length ≤ i := List.length_take_le _ _
  have h3 : (l.take i).length * K ≤ i * K := Nat.mul_le_mul_right _ h2
  omega
/-- the sum that Light has made: right while few have been seen -/
def SeenI (l : List (List UInt8 × LV)) (i : Nat) (s : Int) : Prop := i ≤ 400 → s = (bytesI (l.take i) : Int)
theorem seenI_step {l : List (List UInt8 × LV)} {i : Nat} {s : Int} (hs : SeenI l i s) (hi : i < l.length) (h : ∀ o ∈ l, o.2.x.l.length ≤ 140737488355328) : SeenI l (i + 1) (wrap64 (s + (l[i].2.x.l.length : Int))) := by
  intro hi2
  have e := hs (by omega)
  have h1 := bytesI_take_le 140737488355328 l (i + 1) h
  have h2 := bytesI_take l i hi
  have h3 : (i + 1) * 140737488355328 ≤ 401 * 140737488355328 := Nat.mul_le_mul_right _ (by omega)
  rw [h2] at h1 ⊢
  rw [e, IntWalk.wrap64_in _ ⟨by omega, by omega⟩]
  omega
theorem le_sum : ∀ (l : List Nat) (n : Nat), n ∈ l → n ≤ l.sum
  | [], _, h => by cases h
  | m :: l, n, h => by
    rw [List.sum_cons]
    rcases List.mem_cons.1 h with rfl | h
    · omega
    · have := le_sum l n h
      omega
theorem lightI_len {L : List (List UInt8 × LV)} (h : lightI L = true) : L.length ≤ 200 ∧ ∀ x ∈ L, x.1.length ≤ 200 ∧ x.2.x.l.length ≤ 20000 := by
  unfold lightI at h
  simp only [Bool.and_eq_true, decide_eq_true_eq, List.all_eq_true] at h
  refine ⟨h.2.1, fun x hx => ⟨h.1 x hx, ?_⟩⟩
  have h1 : x.2.x.l.length ≤ bytesI L := by
    unfold bytesI
    exact le_sum _ _ (List.mem_map.2 ⟨x, hx, rfl⟩)
  omega
set_option maxRecDepth 100000 in
set_option maxHeartbeats 400000 in
theorem lightI_any (A : Option Addr) (c : Nat) (l : List (List UInt8 × LV)) (w : World) (h : ItA w A l) :
    Calls Tryz.prog 5 #[.slice A l.length c] w fun e w' => e = .returned (.bool (lightI l)) ∧ Below w.heap.size w w' := by
  have hlen := h.len
  go_enter Tryz.func5, Tryz.ntmps5
  go_wp2_with fail
  go_loopw [3, 8] (fun sv iv wr => ∃ (i : Nat) (s : Int), i ≤ l.length ∧ iv = .int .i64 (i : Int) ∧ sv = .int .i64 s ∧ SeenI l i s ∧ (∀ x ∈ l.take i, x.1.length ≤ 200) ∧ Below w.heap.size w wr) (fun _ iv _ => l.length - (intOf iv).toNat)
  case atStart => exact ⟨0, 0, Nat.zero_le _, rfl, rfl, by intro _; simp [bytesI], by simp, Below.refl _ _⟩
  case round =>
    obtain ⟨i, s, hi, rfl, rfl, hs, hp, hb⟩ := hrel
    by_cases hlt : i < l.length
    · obtain ⟨b, off, rfl, hbb, hc0, hc1, hc2⟩ := (h.below hb).at_ hlt
      have hsz := hb.size
      have hok := h.ok _ (List.getElem_mem hlt)
      have hxl := hok.1.len
      have hpl := hok.2
      have hst := Lib.hid (seenI_step hs hlt (fun o ho => (h.ok o ho).1.len))
      have hmem := List.getElem_mem hlt
      have hp2 : l[i].1.length ≤ 200 → Hid (∀ x ∈ l.take (i + 1), x.1.length ≤ 200) := fun h2 => Lib.hid (by
        rw [List.take_succ_eq_append_getElem hlt]
        intro x hx
        rcases List.mem_append.1 hx with hx | hx
        · exact hp x hx
        · rw [List.mem_singleton.1 hx]; exact h2)
      have hno : ¬ l[i].1.length ≤ 200 → Hid (lightI l = false) := fun h2 => Lib.hid (by
        unfold lightI
        rw [Bool.and_eq_false_iff]
        refine .inl ?_
        rw [List.all_eq_false]
        exact ⟨_, hmem, by simpa using h2⟩)
      clear hok hmem hp
      generalize l[i] = o at *
      obtain ⟨p, k, xA, xc, xl⟩ := o
      simp only [stv] at *
      by_cases h2 : p.length ≤ 200
      · have hp3 := hp2 h2
        clear hp2 hno
        go_wp2_with fail
        go_roundw
        case rel => exact ⟨i + 1, _, hlt, by go_num, rfl, by have := hst.out; push_cast at this; exact this, hp3.out, (hb.alloc hsz _)⟩
        case measure => simp [intOf]; omega
      · have hn := hno h2
        clear hp2 hno
        go_wp2_with fail
        go_ret
        exact ⟨ret_b hn.out.symm, hb.alloc hsz _⟩
    · have e : i = l.length := by omega
      subst e
      rw [List.take_length] at hp
      have hall : l.all (fun x => decide (x.1.length ≤ 200)) = true := by simpa using hp
      have hli : Hid (lightI l = (decide (l.length ≤ 200) && decide (bytesI l ≤ 20000))) := Lib.hid (by unfold lightI; rw [hall]; simp)
      by_cases h2 : l.length ≤ 200
      · have hss := hs (by omega)
        rw [List.take_length] at hss
        subst hss
        clear hp hall
        go_wp2
        all_goals
          go_ret
          exact ⟨ret_b (by rw [hli.out, Bool.eq_iff_iff]; simp; omega), hb⟩
      · clear hp hall
        go_wp2
        all_goals
          go_ret
          exact ⟨ret_b (by rw [hli.out, Bool.eq_iff_iff]; simp; omega), hb⟩
end Go.Proofs.YtjcfphdjgagimaaGreatDoor

/- tree.Diff, Same. -/
namespace Go.Proofs.YtjcfphdjgagimaaGreatDoor
open Go.RowKit

/-- a tree, or none -/
def TreeP (w : World) (v : Option Addr) (L : List (List UInt8 × LV)) : Prop := (v = none ∧ L = []) ∨ ∃ tb mo, v = some ⟨tb, 0, none⟩ ∧ TreeAt w tb mo L
theorem TreeP.below {w w' : World} {v : Option Addr} {L : List (List UInt8 × LV)} (h : TreeP w v L) (k : Below w.heap.size w w') : TreeP w' v L := h.imp id fun ⟨tb, mo, e, ht⟩ => ⟨tb, mo, e, ht.below k⟩
theorem TreeP.ok {w : World} {v : Option Addr} {L : List (List UInt8 × LV)} (h : TreeP w v L) : TreeOk (plainL L) := by
  rcases h with ⟨_, rfl⟩ | ⟨tb, mo, _, ht⟩
  · exact TreeOk.nil
  · exact ht.plain
end Go.Proofs.YtjcfphdjgagimaaGreatDoor

/- What slices.Compact makes of a sorted row of texts: plain. -/
namespace Go.Proofs.YtjcfphdjgagimaaGreatDoor
open Go.RowKit Go.Lib

end Go.Proofs.YtjcfphdjgagimaaGreatDoor

/- slices.SortFunc of texts by name.Compare: a row of the call's own, in the paths' order. -/
namespace Go.Proofs.YtjcfphdjgagimaaGreatDoor
open Go.Shelf Go.RowKit Go.Lib Go.Sort

/-- a text that is no longer than a text may be -/
abbrev TxtB := { l : List UInt8 // l.length ≤ 9223372036854775807 }
instance : Inhabited TxtB := ⟨⟨[], by simp⟩⟩
def txtV (x : TxtB) : Value := .string ⟨⟨x.1⟩⟩
def cmpX (x y : TxtB) : Int := cmpT x.1 y.1

section
variable {α : Type} [Inhabited α] {enc : α → Value}
theorem heap_sortedG {w : World} {g n : Nat} {os : Array Obj} {cur : Array Value} {e : TypeId} {fr : Nat × Nat} (d : Array α) (hb : w.heap[g]? = some (.cells cur e fr)) :
    (grow (putRow enc (Sort.ahead w n) g 0 d) os).heap[g]? = some (.cells (putCells enc 0 d cur) e fr) := by
  have hg : g < w.heap.size := (Array.getElem?_eq_some_iff.1 hb).1
  rw [heap_grow_old _ _ (by simpa using hg)]
  simp [putRow, mapBlock, Sort.ahead, Array.getElem?_modify, hb, onCells]
theorem grownBy_sortedG {w : World} {g n : Nat} {os : Array Obj} (d : Array α) : w.grownBy (grow (putRow enc (Sort.ahead w n) g 0 d) os) (some g) := by
  refine ⟨rfl, rfl, rfl, by simp, fun k hk hne => ?_⟩
  rw [heap_grow_old _ _ (by simpa using hk)]
  have : g ≠ k := fun e => hne (by rw [e])
  simp [putRow, mapBlock, Sort.ahead, Array.getElem?_modify, this]
theorem take_putCellsG (cur : Array Value) (ts : List α) (h : ts.length ≤ cur.size) : (putCells enc 0 ts.toArray cur).toList.take ts.length = ts.map enc := by
  apply List.ext_getElem?
  intro j
  by_cases hj : j < ts.length
  · rw [List.getElem?_take_of_lt hj, Array.getElem?_toList]
    simp [putCells, hj, show j < cur.size by omega]
  · rw [List.getElem?_take_eq_none (by omega), List.getElem?_eq_none (by simp; omega)]
theorem ownsRow_sortedG {w : World} {base g cap n : Nat} {e : TypeId} {os : Array Obj} {cur : Array Value} {ss ts : List α} (hl : ts.length = ss.length) (hbase : base ≤ g) (hb : w.heap[g]? = some (.cells cur e (0, 0)))
    (h1 : ss.length ≤ cap) (h2 : cap ≤ maxLen) (h3 : cur.size = cap * 1) :
    (grow (putRow enc (Sort.ahead w n) g 0 ts.toArray) os).ownsRow base e 1 (.slice (some ⟨g, 0, none⟩) ss.length cap) ss.length (ts.map enc) :=
  ⟨by simp [hl], .inr ⟨g, cap, _, rfl, hbase, heap_sortedG _ hb, h1, h2, by simp [putCells, h3], by rw [Nat.mul_one, ← hl]; exact take_putCellsG cur ts (by omega)⟩⟩
theorem holds_of_blockG {w : World} {g : Nat} {cur : Array Value} {e : TypeId} {ss : List α} (hb : w.heap[g]? = some (.cells cur e (0, 0))) (ht : cur.toList.take ss.length = ss.map enc) : Holds enc w g 0 ss.toArray := by
  intro j hj
  have hj' : j < ss.length := by simpa using hj
  refine ⟨?_, by simp [World.frozen?, hb]⟩
  have h1 : (cur.toList.take ss.length)[j]? = (ss.map enc)[j]? := by rw [ht]
  rw [List.getElem?_take_of_lt hj'] at h1
  simp only [World.cell?, hb, Nat.zero_add]
  simp only [Option.isSome_none, Bool.false_eq_true, if_false]
  rw [← Array.getElem?_toList, h1]
  simp [hj']
end
theorem cmpX_lt (x y : TxtB) : ltOf cmpX x y = decide (cmpT x.1 y.1 < 0) := rfl
theorem swoX : SWO (ltOf cmpX) where
  irrefl x := by rw [cmpX_lt, cmpT_self]; simp
  trans x y z h1 h2 := by
    rw [cmpX_lt] at *
    simp only [decide_eq_true_eq] at *
    exact ordT.trans _ _ _ h1 h2
  ntrans x y z h1 h2 := by
    rw [cmpX_lt] at *
    have := leT_trans z.1 y.1 x.1 (by simpa [leT] using h2) (by simpa [leT] using h1)
    simpa [leT] using this
theorem totX (x y : TxtB) (h1 : ltOf cmpX x y = false) (h2 : ltOf cmpX y x = false) : x = y := by
  rw [cmpX_lt] at *
  exact Subtype.ext (leT_anti x.1 y.1 (by simpa [leT] using h2) (by simpa [leT] using h1))
theorem cmpReadsX (blk off size : Nat) (w : World) : CmpReads Tryz.prog 31 #[] txtV cmpX blk off size w := by
  intro m os dk _ x y
  refine (compare_any ⟨⟨x.1⟩⟩ ⟨⟨y.1⟩⟩ x.2 y.2 _).mono ?_
  rintro e w' ⟨rfl, hq⟩
  exact ⟨rfl, hq⟩
theorem txts : ∀ (ss : List (List UInt8)), (∀ x ∈ ss, x.length ≤ 140737488355328) → ∃ ts : List TxtB, ts.map Subtype.val = ss
  | [], _ => ⟨[], rfl⟩
  | x :: ss, h => by
    obtain ⟨ts, e⟩ := txts ss (fun y hy => h y (by simp [hy]))
    exact ⟨⟨x, by have := h x (by simp); omega⟩ :: ts, by rw [List.map_cons, e]⟩
set_option maxHeartbeats 1000000 in
/-- a row of texts is sorted by name.Compare -/
theorem sortsT : SortsT := by
  intro base A c ss w hown hl hss
  obtain ⟨ts, hts⟩ := txts ss hl
  have hlen : ts.length = ss.length := by rw [← hts, List.length_map]
  have hmv : ss.map stv = ts.map txtV := by rw [← hts, List.map_map]; rfl
  rcases hown.2 with ⟨hnil, h0⟩ | ⟨g, cap, cur, hv, hbase, hb, h1, h2, h3, h4⟩
  · obtain ⟨rfl, hl0, rfl⟩ : A = none ∧ ss.length = 0 ∧ c = 0 := by simpa using hnil
    obtain rfl : ss = [] := List.eq_nil_of_length_eq_zero hl0
    have hcon := AnyF.slices_SortFunc_none { Tryz.sortT with } none 0 (.func (.func 31) #[] #[]) w
    change Calls Tryz.prog 91 _ _ _ at hcon
    refine hcon.mono ?_
    rintro e w' ⟨rfl, rfl⟩
    exact ⟨rfl, by simpa using hown, World.grownBy.refl _ _⟩
  · obtain ⟨rfl, rfl⟩ : A = some ⟨g, 0, none⟩ ∧ c = cap := by simpa using hv
    have eg : ∀ args w, (callFunc 31 args).run Tryz.prog w = .ok (.enter 31 args) w := enters_of Tryz.func31 (by kernel_rfl) rfl
    have hglt : g < w.heap.size := (Array.getElem?_eq_some_iff.1 hb).1
    have hH : Holds txtV w g 0 ts.toArray := holds_of_blockG hb (by rw [hlen, ← hmv]; simpa using h4)
    have hbig : ss.length < 4611686018427387904 := by omega
    have hcon := Any.slices_SortFunc_total Tryz.sortT txtV (fun _ => rfl) cmpX swoX 31 #[] g 0 c ts.toArray w eg (cmpReadsX g 0 ts.toArray.size w).lays hH hglt (by simpa [hlen] using hbig) totX
    change Calls Tryz.prog 91 _ _ _ at hcon
    rw [show ts.toArray.size = ss.length by simp [hlen]] at hcon
    refine hcon.mono ?_
    rintro e w' ⟨rfl, n, os, rfl⟩
    have hms : (ts.mergeSort fun x y => !(ltOf cmpX) y x).map Subtype.val = ss.mergeSort leT := by
      rw [← hts]
      exact List.map_mergeSort (fun a _ b _ => rfl)
    refine ⟨rfl, ?_, ?_⟩
    · have := ownsRow_sortedG (enc := txtV) (n := n) (os := os) (ts := ts.mergeSort fun x y => !(ltOf cmpX) y x) (ss := ts) (by rw [List.length_mergeSort]) hbase hb (by omega) h2 h3
      rw [hlen] at this
      have e2 : (ss.mergeSort leT).map stv = (ts.mergeSort fun x y => !(ltOf cmpX) y x).map txtV := by rw [← hms, List.map_map]; rfl
      rw [e2]
      exact this
    · exact grownBy_sortedG _
end Go.Proofs.YtjcfphdjgagimaaGreatDoor

/- slices.Compact of a sorted row of texts of the call's own. -/
namespace Go.Proofs.YtjcfphdjgagimaaGreatDoor
open Go.Shelf Go.RowKit Go.Lib Go.Sort

end Go.Proofs.YtjcfphdjgagimaaGreatDoor

/- tree.Diff: the walk. -/
namespace Go.Proofs.YtjcfphdjgagimaaGreatDoor
open Go.RowKit Go.Lib

end Go.Proofs.YtjcfphdjgagimaaGreatDoor

/- tree: Same, and a tree that is none. -/
namespace Go.Proofs.YtjcfphdjgagimaaGreatDoor
open Go.RowKit

theorem treeLen_nil (w : World) : Calls Tryz.prog 18 #[.pointer none] w fun e w' => e = .returned (.int .i64 0) ∧ Below w.heap.size w w' := by
  go_enter Tryz.func18, Tryz.ntmps18
  go_wp2_with fail
  go_ret
  exact ⟨rfl, Below.refl _ _⟩
theorem treeItems_nil (w : World) : Calls Tryz.prog 15 #[.pointer none] w fun e w' => e = .returned (.slice none 0 0) ∧ Below w.heap.size w w' := by
  go_enter Tryz.func15, Tryz.ntmps15
  go_wp2_with fail
  refine (treeall_nil w).mono ?_
  rintro e w1 ⟨rfl, rfl⟩
  go_wp2_with fail
  go_loopw [2, 8] (fun ov iv wr => ov = .slice none 0 0 ∧ iv = .int .i64 0 ∧ Below w.heap.size w wr) (fun _ _ _ => 0)
  case atStart => exact ⟨rfl, rfl, Below.refl _ _⟩
  case round =>
    obtain ⟨rfl, rfl, hb⟩ := hrel
    go_wp2_with fail
    go_ret
    exact ⟨rfl, hb⟩
end Go.Proofs.YtjcfphdjgagimaaGreatDoor

/- tenderlaw08: Plays. -/
namespace Go.Proofs.YtjcfphdjgagimaaGreatDoor
open Go.RowKit Go.Maps

/-- a tree on which items were set, and the document's -/
structure Played (w : World) (T : List (List UInt8 × LP)) (tb : Nat) (mo : Option Nat) (L : List (List UInt8 × LV)) (B : Option Addr) (M : List (List UInt8 × LV)) : Prop where
  tree : TreeAt w tb mo L
  plain : Hid (plainL L = T)
  its : Its w B M
  same : Hid (plainL M = T)
theorem Played.below {w w' : World} {T : List (List UInt8 × LP)} {tb : Nat} {mo : Option Nat} {L M : List (List UInt8 × LV)} {B : Option Addr} (h : Played w T tb mo L B M) (k : Below w.heap.size w w') : Played w' T tb mo L B M := ⟨h.tree.below k, h.plain, h.its.below k, h.same⟩


set_option maxRecDepth 100000 in
set_option maxHeartbeats 1000000 in
theorem plays08_any (A : Option Addr) (c : Nat) (l : List (List UInt8 × LV)) (w : World) (h : ItA w A l) (hl : l.length ≤ 200 ∧ ∀ x ∈ l, x.1.length ≤ 200 ∧ x.2.x.l.length ≤ 20000) :
    Calls Tryz.prog 7 #[.slice A l.length c] w fun e w' => ∃ (tb : Nat) (mo : Option Nat) (L : List (List UInt8 × LV)) (B : Option Addr) (d : Nat) (M : List (List UInt8 × LV)), e = .returned (.tuple #[.pointer (some ⟨tb, 0, none⟩), .slice B M.length d, .bool true]) ∧ Played w' (playS [] (plainL l)) tb mo L B M ∧
      w.heap.size ≤ tb ∧ (∀ m, mo = some m → w.heap.size ≤ m) ∧ Below w.heap.size w w' := by
  have HA := Lib.hid h
  clear h
  go_enter Tryz.func7, Tryz.ntmps7
  go_wp2_with fail
  refine (treeNew_nil w).mono ?_
  rintro e w1 ⟨rfl, ht1, hb1⟩
  obtain ⟨tb, htb⟩ : ∃ tb, tb = w.heap.size := ⟨_, rfl⟩
  rw [← htb] at ht1
  rw [← htb]
  have HT1 := Lib.hid ht1
  have htw : w.heap.size ≤ tb := by omega
  clear ht1 htb
  go_wp2_with fail
  go_loopw [7, 24] (fun wv iv wr => ∃ (i : Nat) (mo : Option Nat) (L : List (List UInt8 × LV)) (B : Option Addr) (d : Nat) (M : List (List UInt8 × LV)), i ≤ l.length ∧ iv = .int .i64 (i : Int) ∧ wv = .slice B M.length d ∧ Played wr (playS [] (plainL (l.take i))) tb mo L B M ∧ (∀ m, mo = some m → w.heap.size ≤ m) ∧ Below w.heap.size w wr) (fun _ iv _ => l.length - (intOf iv).toNat)
  case atStart => exact ⟨0, none, [], none, 0, [], Nat.zero_le _, rfl, rfl, ⟨HT1.out, rfl, Its.nil _, rfl⟩, by simp, hb1⟩
  case round =>
    obtain ⟨i, mo, L, B, d, M, hi, rfl, rfl, hP, hmo, hb⟩ := hrel
    by_cases hlt : i < l.length
    · have hA := HA.out.below hb
      obtain ⟨b, off, rfl, hbb, hc0, hc1, hc2⟩ := hA.at_ hlt
      have hxo := hA.ok _ (List.getElem_mem hlt)
      have hxl := hl.2 _ (List.getElem_mem hlt)
      have hps : Hid (playS [] (plainL (l.take (i + 1))) = setS (playS [] (plainL (l.take i))) l[i].1 l[i].2.p) := Lib.hid (by rw [plain_snoc l i hlt, play_snoc])
      have hsz := hb.size
      obtain ⟨x, hx⟩ : ∃ x, x = l[i] := ⟨_, rfl⟩
      rw [← hx] at hc0 hc1 hc2 hxo hxl hps
      simp only [stv] at hc0
      obtain ⟨T, hT⟩ : ∃ T, T = playS [] (plainL (l.take i)) := ⟨_, rfl⟩
      rw [← hT] at hP hps
      have hba : Below wr.heap.size wr (wr.alloc (.cells #[.string ⟨⟨x.1⟩⟩, .int .i64 x.2.k, .slice x.2.x.A x.2.x.l.length x.2.x.c] 48)) := (Below.refl _ _).alloc (Nat.le_refl _) _
      have xb := Blk.new wr 48 #[.string ⟨⟨x.1⟩⟩, .int .i64 x.2.k, .slice x.2.x.A x.2.x.l.length x.2.x.c]
      have hP1 := hP.below hba
      have hw1 := hb.trans (hba.mono hb.size)
      have HX1 := Lib.hid (hxo.1.x.below hba)
      have HP1 := Lib.hid hP1
      have htl := hP.tree.blk.lt
      have hml := hP.tree.lt
      obtain ⟨hx1, hx2⟩ := hxl
      have hok : TreeOk (plainL M) := by rw [hP.same.out, ← hP.plain.out]; exact hP.tree.plain
      have hMS : mayS (plainL M) x.1 (x.2.k, x.2.x.l) = mayS T x.1 (x.2.k, x.2.x.l) := by rw [hP.same.out]
      have HLM : Hid (mayS (plainL L) x.1 (x.2.k, x.2.x.l) = mayS T x.1 (x.2.k, x.2.x.l)) := Lib.hid (by rw [hP.plain.out])
      have q0 := xb.cell 0
      have q1 := xb.cell 1
      have q2 := xb.cell 2
      simp only [List.getElem?_toArray, List.getElem?_cons_zero, List.getElem?_cons_succ] at q0 q1 q2
      clear hP hA hxo hx hT hP1
      go_wp2_with fail
      refine (refSet_any B d M x.1 x.2.k x.2.x.A x.2.x.c x.2.x.l _ HP1.out.its hok (HX1.out.mono (fun _ _ _ => trivial)) (by omega) (by omega)).mono ?_
      rintro e w2 ⟨B2, d2, M2, rfl, hM2, hI2, hb2⟩
      rw [hMS] at hM2 ⊢
      have HM2 : Hid (plainL M2 = playS [] (plainL (l.take (i + 1)))) := Lib.hid (by have := plain_step M x.1 x.2; rw [hM2.out, ← hMS]; refine this.trans ?_; rw [HP1.out.same.out, hps.out])
      have HI2 := Lib.hid hI2
      have HT2 := Lib.hid (HP1.out.tree.below hb2)
      have HX2 := Lib.hid ((HX1.out.below hb2).1)
      have xb2 := xb.below hb2
      have hw2 := hw1.trans (hb2.mono hw1.size)
      have hxn : ¬ (wr.heap.size = tb ∨ mo = some wr.heap.size) := by
        rintro (e | e)
        · omega
        · have := hml _ e; omega
      have q0 := xb2.cell 0
      have q1 := xb2.cell 1
      have q2 := xb2.cell 2
      simp only [List.getElem?_toArray, List.getElem?_cons_zero, List.getElem?_cons_succ] at q0 q1 q2
      have HPS : Hid (setS (plainL L) x.1 (x.2.k, x.2.x.l) = playS [] (plainL (l.take (i + 1)))) := Lib.hid (by rw [hps.out, HP1.out.plain.out]; rfl)
      clear hM2 hI2 hb2 HX1 xb hps HP1 hok
      have HMT := Lib.hid hMS
      obtain ⟨ms, hms⟩ : ∃ ms, ms = mayS T x.1 (x.2.k, x.2.x.l) := ⟨_, rfl⟩
      have HMS : Hid (mayS (plainL L) x.1 (x.2.k, x.2.x.l) = ms) := Lib.hid (by rw [HLM.out, hms])
      rw [← hms]
      clear hms hMS HLM HMT
      go_wp2_with fail
      refine (treeSet_any sortsT tb mo L x.1 x.2.k x.2.x.A x.2.x.c x.2.x.l _ w2 HT2.out HX2.out (by omega) (by omega)).mono ?_
      rintro e w3 ⟨rfl, hto⟩
      rw [HMS.out]
      obtain ⟨⟨mo', L', hT3, hL3, hmo3⟩, hfr⟩ := hto
      have HI3 := Lib.hid (HI2.out.set HT2.out hfr)
      have HT3 := Lib.hid hT3
      have hL4 : Hid (plainL L' = playS [] (plainL (l.take (i + 1)))) := Lib.hid (hL3.out.trans HPS.out)
      have hw3 : Below w.heap.size w w3 := hw2.trans (hfr.below hw2.size (fun k hk e => by
        rcases e with e | e
        · omega
        · have := hmo _ e; omega))
      have hmo4 : ∀ m, mo' = some m → w.heap.size ≤ m := fun m e => by
        rcases hmo3 m e with e | e
        · exact hmo m e
        · have := hw2.size; omega
      clear hT3 hfr hL3 HI2 HT2 HX2 xb2 hmo3 q0 q1 q2 HPS HMS
      go_wp2_with fail
      go_roundw
      case rel => exact ⟨i + 1, mo', L', B2, d2, M2, hlt, by go_num, rfl, ⟨HT3.out, hL4, HI3.out, HM2⟩, hmo4, hw3⟩
      case measure => simp [intOf]; omega
    · have e : i = l.length := by omega
      subst e
      rw [List.take_length] at hP
      go_wp2_with fail
      go_ret3
      exact ⟨tb, mo, L, B, d, M, rfl, hP, htw, hmo, hb⟩

end Go.Proofs.YtjcfphdjgagimaaGreatDoor

/- A leaf's bytes, plainly. -/
namespace Go.Proofs.YtjcfphdjgagimaaGreatDoor
open Go.RowKit

/-- a leaf's bytes -/
def leafB (k : Int) (l : List UInt8) : List UInt8 := if checkN k l.length ≠ 0 then numB 0 else if k = 1 then numB 1 ++ textB l else numB k.toNat
theorem leafB_bad {k : Int} {l : List UInt8} (h : checkN k l.length ≠ 0) : leafB k l = numB 0 := by unfold leafB; rw [if_pos h]
theorem leafB_file {k : Int} {l : List UInt8} (h : checkN k l.length = 0) (hk : k = 1) : leafB k l = numB 1 ++ textB l := by unfold leafB; rw [if_neg (by simpa using h), if_pos hk]
theorem leafB_other {k : Int} {l : List UInt8} (h : checkN k l.length = 0) (hk : k ≠ 1) : leafB k l = numB k.toNat := by unfold leafB; rw [if_neg (by simpa using h), if_neg hk]
theorem leafB_len (k : Int) (l : List UInt8) : (leafB k l).length ≤ 18 + l.length := by
  have h0 := numB_len 0
  have h1 := numB_len 1
  have h2 := numB_len k.toNat
  have h3 := numB_len l.length
  unfold leafB textB
  split
  · omega
  · split
    · simp only [List.length_append]; omega
    · omega
theorem checkN_ok {k : Int} {n : Nat} (h : checkN k n = 0) : (k = 0 ∨ k = 1 ∨ k = 2) ∧ (k ≠ 1 → n = 0) ∧ n ≤ 4096 := by
  unfold checkN at h
  split at h
  · rename_i h1
    split at h
    · exact ⟨.inr (.inl h1), fun h2 => absurd h1 h2, by assumption⟩
    · simp at h
  · split at h
    · rename_i h1 h2
      split at h
      · rename_i h3
        exact ⟨h2.elim .inl (fun h => .inr (.inr h)), fun _ => h3, by omega⟩
      · simp at h
    · simp at h
/-- bytes that leaves take at most -/
def wideL (ls : List LV) : Nat := (ls.map fun o => 18 + o.x.l.length).sum
theorem wideL_take (ls : List LV) (i : Nat) (hi : i < ls.length) : (ls.take i |>.flatMap fun o => leafB o.k o.x.l).length + (18 + ls[i].x.l.length) ≤ wideL ls := by
  have h1 : ∀ cs : List LV, (cs.flatMap fun o => leafB o.k o.x.l).length ≤ wideL cs := by
    intro cs
    induction cs with
    | nil => simp [wideL]
    | cons x cs ih =>
      have := leafB_len x.k x.x.l
      simp only [wideL, List.flatMap_cons, List.length_append, List.map_cons, List.sum_cons] at ih ⊢
      omega
  have h2 := h1 (ls.take i)
  have h3 : wideL (ls.take i) + (18 + ls[i].x.l.length) ≤ wideL ls := by
    have e : ls = ls.take i ++ ls[i] :: ls.drop (i + 1) := by simp
    have e2 : wideL ls = wideL (ls.take i ++ ls[i] :: ls.drop (i + 1)) := congrArg wideL e
    rw [e2]
    simp only [wideL, List.map_append, List.map_cons, List.sum_append, List.sum_cons]
    omega
  omega
theorem wideL_len : ∀ ls : List LV, ls.length ≤ wideL ls
  | [] => by simp
  | x :: ls => by
    have := wideL_len ls
    simp only [wideL, List.map_cons, List.sum_cons, List.length_cons] at this ⊢
    omega
end Go.Proofs.YtjcfphdjgagimaaGreatDoor

/- grain.Pen: Num, Truth, Text, Bytes; bytes.Clone. -/
namespace Go.Proofs.YtjcfphdjgagimaaGreatDoor
open Go.RowKit

theorem flat_take {α : Type} {f : α → List UInt8} {L l : List UInt8} {ns : List α} {i : Nat} (hi : i < ns.length) (h : L = l ++ (ns.take i).flatMap f) : L ++ f ns[i] = l ++ (ns.take (i + 1)).flatMap f := by
  rw [h, List.take_succ_eq_append_getElem hi, List.flatMap_append, List.append_assoc]
  simp
theorem flat9 : ∀ (ns : List Nat), (ns.flatMap numB).length ≤ 9 * ns.length
  | [] => by simp
  | n :: ns => by
    have h1 := numB_len n
    have h2 := flat9 ns
    simp only [List.flatMap_cons, List.length_append, List.length_cons]
    omega
theorem flat9t (ns : List Nat) (i : Nat) : ((ns.take i).flatMap numB).length ≤ 9 * i := by
  have h := flat9 (ns.take i)
  have h2 := List.length_take_le i ns
  omega

set_option maxHeartbeats 400000 in
theorem Num_any (base pb : Nat) (v : Value) (l : List UInt8) (A : Option Addr) (c : Nat) (ns : List Nat) (Z : Nat → Prop) (w : World) (hp : Pen w base pb v l) (hr : Rd w Z 1 A ns.length (ns.map u64v))
    (hZ : ∀ b, b < w.heap.size → Z b → ¬ (b = pb ∨ v.ownBlock = some b)) (hn : ∀ n ∈ ns, n < 18446744073709551616) (hbase : base ≤ w.heap.size) (hlen : l.length + 9 * ns.length ≤ 140737488355328) :
    Calls Tryz.prog 22 #[.pointer (some ⟨pb, 0, none⟩), .slice A ns.length c] w fun e w' => e = .returned (.tuple #[]) ∧ ∃ v', PenTo w base pb v (l ++ ns.flatMap numB) w' v' := by
  go_enter Tryz.func22, Tryz.ntmps22
  go_wp2_with fail
  go_loopw [10] (fun iv wr => ∃ (i : Nat) (Li : List UInt8) (v' : Value), i ≤ ns.length ∧ iv = .int .i64 (i : Int) ∧ PenTo w base pb v Li wr v' ∧ Hid (Li = l ++ (ns.take i).flatMap numB)) (fun iv _ => ns.length - (intOf iv).toNat)
  case atStart => exact ⟨0, l, v, Nat.zero_le _, rfl, PenTo.refl hp, by show l = _; simp⟩
  case round =>
    obtain ⟨i, Li, v', hi, rfl, hpi, hLi⟩ := hrel
    have hsz := hpi.fr.size
    by_cases hlt : i < ns.length
    · obtain ⟨b, off, rfl, _, _, hc⟩ := (hr.fr hpi.fr hZ).atm hlt
      have hx := hn _ (List.getElem_mem hlt)
      have hll : Li.length ≤ l.length + 9 * i := by rw [hLi.out, List.length_append]; have := flat9t ns i; omega
      have hLn := flat_take hlt hLi.out
      have HLn := Lib.hid hLn
      clear hLn
      generalize ns[i] = x at hc hx HLn
      unfold u64v at hc
      go_wp2_with (go_at_call 58; refine (num_any base pb v' Li x _ hpi.pen (by omega) hx (by omega)).mono ?_; rintro e w1 ⟨rfl, v1, h1⟩)
      go_roundw
      case rel => exact ⟨i + 1, _, v1, hlt, by go_num, hpi.trans h1, HLn⟩
      case measure => simp [intOf]; omega
    · have e : i = ns.length := by omega
      go_wp2_with fail
      go_end0
      subst e
      refine ⟨rfl, v', ?_⟩
      have hL : Li = l ++ ns.flatMap numB := by rw [hLi.out, List.take_length]
      rw [← hL]
      exact hpi

set_option maxHeartbeats 400000 in
theorem Bytes_any (base pb : Nat) (v : Value) (l : List UInt8) (w : World) (hp : Pen w base pb v l) (hlen : l.length ≤ 140737488355328) :
    Calls Tryz.prog 25 #[.pointer (some ⟨pb, 0, none⟩)] w fun e w' => ∃ (A' : Option Addr) (c' : Nat) (l' : List UInt8), e = .returned (.slice A' l'.length c') ∧ Hid (l' = l) ∧ OwB w' w.heap.size (.slice A' l'.length c') l' ∧ Below w.heap.size w w' := by
  have hc := hp.cell
  obtain ⟨A, c, rfl, hlc, hcm, hA⟩ := hp.own.form
  go_enter Tryz.func25, Tryz.ntmps25
  go_wp2_with fail
  refine (clone_any A c l _ _ hp.own.rd hlen).mono ?_
  rintro e w1 ⟨A', c', l', rfl, hx, ho, hb⟩
  go_wp2_with fail
  go_ret
  exact ⟨A', c', l', rfl, hx, ho, hb⟩

end Go.Proofs.YtjcfphdjgagimaaGreatDoor

/- grain.Pen.Text, and pens that are none. -/
namespace Go.Proofs.YtjcfphdjgagimaaGreatDoor
open Go.RowKit

/-- bytes that texts take at most -/
def wide (bs : List BV) : Nat := (bs.map fun x => 9 + x.l.length).sum
theorem wide_take (bs : List BV) (i : Nat) (hi : i < bs.length) : (bs.take i |>.flatMap fun x => textB x.l).length + (9 + bs[i].l.length) ≤ wide bs := by
  have h1 : ∀ cs : List BV, (cs.flatMap fun x => textB x.l).length ≤ wide cs := by
    intro cs
    induction cs with
    | nil => simp [wide]
    | cons x cs ih =>
      have := numB_len x.l.length
      simp only [wide, List.flatMap_cons, List.length_append, List.map_cons, List.sum_cons, textB] at ih ⊢
      omega
  have h2 := h1 (bs.take i)
  have h3 : wide (bs.take i) + (9 + bs[i].l.length) ≤ wide bs := by
    have e : bs = bs.take i ++ bs[i] :: bs.drop (i + 1) := by simp
    have e2 : wide bs = wide (bs.take i ++ bs[i] :: bs.drop (i + 1)) := congrArg wide e
    rw [e2]
    simp only [wide, List.map_append, List.map_cons, List.sum_append, List.sum_cons]
    omega
  omega

theorem wide_len : ∀ bs : List BV, bs.length ≤ wide bs
  | [] => by simp
  | x :: bs => by
    have := wide_len bs
    simp only [wide, List.map_cons, List.sum_cons, List.length_cons] at this ⊢
    omega
theorem hid_text {L L1 n r : List UInt8} (h : L1 ++ n = r) (h' : L = L1 ++ n) : Hid (L = r) := by rw [h', h]; rfl

set_option maxHeartbeats 400000 in
theorem Text_any (base pb : Nat) (v : Value) (l : List UInt8) (A : Option Addr) (c : Nat) (bs : List BV) (Z : Nat → Prop) (w : World) (hp : Pen w base pb v l) (hr : Rd w Z 1 A bs.length (bs.map BV.v)) (hok : ∀ x ∈ bs, x.ok w Z)
    (hZ : ∀ b, b < w.heap.size → Z b → ¬ (b = pb ∨ v.ownBlock = some b)) (hbase : base ≤ w.heap.size) (hlen : l.length + wide bs ≤ 140737488355328) :
    Calls Tryz.prog 23 #[.pointer (some ⟨pb, 0, none⟩), .slice A bs.length c] w fun e w' => e = .returned (.tuple #[]) ∧ ∃ v', PenTo w base pb v (l ++ bs.flatMap fun x => textB x.l) w' v' := by
  have hbl := wide_len bs
  go_enter Tryz.func23, Tryz.ntmps23
  go_wp2_with fail
  go_loopw [10] (fun iv wr => ∃ (i : Nat) (Li : List UInt8) (v' : Value), i ≤ bs.length ∧ iv = .int .i64 (i : Int) ∧ PenTo w base pb v Li wr v' ∧ Hid (Li = l ++ (bs.take i).flatMap fun x => textB x.l)) (fun iv _ => bs.length - (intOf iv).toNat)
  case atStart => exact ⟨0, l, v, Nat.zero_le _, rfl, PenTo.refl hp, by show l = _; simp⟩
  case round =>
    obtain ⟨i, Li, v', hi, rfl, hpi, hLi⟩ := hrel
    have hsz := hpi.fr.size
    by_cases hlt : i < bs.length
    · obtain ⟨b, off, rfl, _, _, hc⟩ := (hr.fr hpi.fr hZ).atm hlt
      have hxok := (hok _ (List.getElem_mem hlt))
      have hw := wide_take bs i hlt
      have hll : Li.length = l.length + ((bs.take i).flatMap fun x => textB x.l).length := by rw [hLi.out, List.length_append]
      have hll2 : Li.length + (9 + bs[i].l.length) ≤ 140737488355328 := by omega
      have hLn := flat_take hlt hLi.out
      have HLn := Lib.hid hLn
      clear hLn hll hw
      generalize bs[i] = x at hc HLn hxok hll2
      obtain ⟨xA, xc, xl⟩ := x
      dsimp only at HLn hxok hll2
      replace hc : wr.cell? ⟨b, off + i, none⟩ = some (.slice xA xl.length xc) := hc
      go_wp2_with fail
      refine (num_any base pb v' Li xl.length _ hpi.pen (by omega) (by omega) (by omega)).mono ?_
      rintro e w1 ⟨rfl, v1, h1⟩
      have hL1 : (Li ++ numB xl.length).length ≤ Li.length + 9 := by have := numB_len xl.length; rw [List.length_append]; omega
      replace HLn : Hid ((Li ++ numB xl.length) ++ xl = l ++ (bs.take (i + 1)).flatMap fun x => textB x.l) := by
        show _ = _
        rw [List.append_assoc]
        exact HLn.out
      generalize Li ++ numB xl.length = L1 at h1 hL1 HLn
      have hp1 := hpi.trans h1
      obtain ⟨A1, c1, rfl, hlc1, hcm1, hA1⟩ := h1.pen.own.form
      have hc1 := h1.pen.cell
      have hx1 : By w1 Z xA xl := (hxok.fr hp1.fr hZ).by_
      go_wp2_with (at_builtin; refine wpList_append_by rfl (.tmp 23) (.tmp 24) rfl (v := .slice A1 L1.length c1) rfl h1.pen.own rfl hx1 (by omega) (by have := hp1.fr.size; omega) ?_; intro L2 A2 c2 w2 hL2 hown hg hat; have hst := PenTo.stored h1.pen (Below.refl _ _) hown hg hat; have hb2 := h1.pen.blk.grown hg h1.pen.ne; have hc2 : w2.cell? ⟨pb, 0, none⟩ = some (.slice A1 L1.length c1) := hb2.cell 0; have hf2 : w2.frozen? ⟨pb, 0, none⟩ = false := hb2.frozen 0)
      go_roundw
      case rel => exact ⟨i + 1, L2, _, hlt, by go_num, hp1.trans hst, hid_text HLn.out hL2.out⟩
      case measure => simp [intOf]; omega
    · have e : i = bs.length := by omega
      go_wp2_with fail
      go_end0
      subst e
      refine ⟨rfl, v', ?_⟩
      have hL : Li = l ++ bs.flatMap fun x => textB x.l := by rw [hLi.out, List.take_length]
      rw [← hL]
      exact hpi

end Go.Proofs.YtjcfphdjgagimaaGreatDoor

/- A new pen, what stays beside it; flat lists of cells. -/
namespace Go.Proofs.YtjcfphdjgagimaaGreatDoor
open Go.RowKit

theorem PenTo.low {a b : World} {base pb B : Nat} {v v' : Value} {l l' : List UInt8} (h : PenTo a base pb v l' b v') (ho : OwB a base v l) (hp : B ≤ pb) (hB : B ≤ base) (hs : B ≤ a.heap.size) : Below B a b :=
  h.fr.below hs (fun k hk => by
    rintro (rfl | e)
    · omega
    · have := (ho.lt _ e).1; omega)
theorem Pen.low {a b : World} {base pb B : Nat} {v v' : Value} {l l' : List UInt8} (h : Pen a base pb v l) (k : PenTo a base pb v l' b v') (hp : B ≤ pb) (hB : B ≤ base) (hs : B ≤ a.heap.size) : Below B a b := k.low h.own hp hB hs
/-- var p grain.Pen -/
theorem Pen.new (w : World) {base : Nat} : Pen (w.alloc (.cells #[.slice none 0 0] 55)) base w.heap.size (.slice none 0 0) [] := ⟨Blk.new _ _ _, OwB.nil _ _⟩

theorem box_keep {B pb : Nat} {a c : World} {vp vp' : Value} {Lp' : List UInt8} (k : PenTo a B pb vp Lp' c vp') {g : Nat} {t : TypeId} {cs : Array Value} (hb : Blk a g t cs) (h1 : g ≠ pb) (h2 : vp.ownBlock ≠ some g) : Blk c g t cs :=
  hb.fr k.fr (by rintro (e | e); exact h1 e; exact h2 e)

/-- new memory behind a pen's method -/
theorem PenTo.mem {a b c : World} {base pb : Nat} {v v' : Value} {l' : List UInt8} (h : PenTo a base pb v l' b v') (k : Below b.heap.size b c) : PenTo a base pb v l' c v' :=
  ⟨h.pen.below k, h.fr.then_below k, h.at_⟩
/-- a store into a new block beside a pen -/
theorem PenTo.side {a b c : World} {base pb bx : Nat} {v v' : Value} {l' : List UInt8} (h : PenTo a base pb v l' b v') (k : Fr (fun x => x = bx) b c) (hb : a.heap.size ≤ bx) (h1 : bx ≠ pb) (h2 : v'.ownBlock ≠ some bx) : PenTo a base pb v l' c v' :=
  ⟨⟨h.pen.blk.fr k (fun e => h1 e.symm), h.pen.own.fr k (fun g hg e => h2 (by rw [hg, e]))⟩, h.fr.trans k (fun x hx e => by omega), h.at_⟩
end Go.Proofs.YtjcfphdjgagimaaGreatDoor

/- leaf.Write. -/
namespace Go.Proofs.YtjcfphdjgagimaaGreatDoor
open Go.RowKit

/-- the cells of one leaf -/
theorem leaf_at {w : World} {Z : Nat → Prop} {A : Option Addr} {ls : List LV} {i : Nat} (h : Rd w Z 2 A ls.length (ls.flatMap LV.cells)) (hi : i < ls.length) :
    ∃ b off, A = some ⟨b, off, none⟩ ∧ Z b ∧ b < w.heap.size ∧ w.cell? ⟨b, off + i * 2, none⟩ = some (.int .i64 ls[i].k) ∧ w.cell? ⟨b, off + i * 2 + 1, none⟩ = some (.slice ls[i].x.A ls[i].x.l.length ls[i].x.c) := by
  obtain ⟨b, off, hA, hz, hb, hc⟩ := h.2 (by omega)
  have hg : ∀ j, j < 2 → (ls.flatMap LV.cells)[i * 2 + j]? = (LV.cells ls[i])[j]? := fun j hj => flat_get (k := 2) (fun _ => rfl) ls i j hi hj
  refine ⟨b, off, hA, hz, hb, ?_, ?_⟩
  · exact hc _ _ (hg 0 (by omega))
  · rw [Nat.add_assoc]; exact hc _ _ (hg 1 (by omega))

set_option maxHeartbeats 1000000 in
theorem leafWrite_any (base pb : Nat) (v : Value) (l : List UInt8) (A : Option Addr) (c : Nat) (ls : List LV) (Z : Nat → Prop) (w : World) (hp : Pen w base pb v l) (hr : Rd w Z 2 A ls.length (ls.flatMap LV.cells)) (hok : ∀ x ∈ ls, x.x.ok w Z)
    (hZ : ∀ b, b < w.heap.size → Z b → ¬ (b = pb ∨ v.ownBlock = some b)) (hbase : base ≤ w.heap.size) (hlen : l.length + wideL ls ≤ 140737488355328) :
    Calls Tryz.prog 24 #[.pointer (some ⟨pb, 0, none⟩), .slice A ls.length c] w fun e w' => e = .returned (.tuple #[]) ∧ ∃ v', PenTo w base pb v (l ++ ls.flatMap fun o => leafB o.k o.x.l) w' v' := by
  have hbl := wideL_len ls
  go_enter Tryz.func24, Tryz.ntmps24
  go_wp2_with fail
  go_loopw [8] (fun iv wr => ∃ (i : Nat) (Li : List UInt8) (v' : Value), i ≤ ls.length ∧ iv = .int .i64 (i : Int) ∧ PenTo w base pb v Li wr v' ∧ Hid (Li = l ++ (ls.take i).flatMap fun o => leafB o.k o.x.l)) (fun iv _ => ls.length - (intOf iv).toNat)
  case atStart => exact ⟨0, l, v, Nat.zero_le _, rfl, PenTo.refl hp, by show l = _; simp⟩
  case round =>
    obtain ⟨i, Li, v', hi, rfl, hpi, hLi⟩ := hrel
    have hsz := hpi.fr.size
    by_cases hlt : i < ls.length
    · obtain ⟨b, off, rfl, _, _, hc0, hc1⟩ := leaf_at (hr.fr hpi.fr hZ) hlt
      have hxok := hok _ (List.getElem_mem hlt)
      have hw := wideL_take ls i hlt
      have hll : Li.length + (18 + ls[i].x.l.length) ≤ 140737488355328 := by rw [hLi.out, List.length_append]; omega
      have hLn := flat_take (f := fun o : LV => leafB o.k o.x.l) hlt hLi.out
      have HLn := Lib.hid hLn
      clear hLn hw
      generalize ls[i] = x at hc0 hc1 HLn hxok hll
      obtain ⟨k, xA, xc, xl⟩ := x
      dsimp only at hc0 hc1 HLn hxok hll
      go_wp2_with fail
      refine (leafCheck_any k xA xl.length xc _ (by omega)).mono ?_
      rintro e w1 ⟨rfl, hb1⟩
      have hx1 : Blk w1 wr.heap.size 46 #[.int .i64 k, .slice xA xl.length xc] := (Blk.new wr 46 #[.int .i64 k, .slice xA xl.length xc]).below hb1
      have hlow1 : Below wr.heap.size wr w1 := ((Below.refl _ _).alloc (Nat.le_refl _) _).trans (hb1.mono (by simp))
      have hp1 : PenTo w base pb v Li w1 v' := hpi.mem hlow1
      have hn1 : wr.heap.size ≠ pb := by have := hpi.pen.blk.lt; omega
      have hn2 : v'.ownBlock ≠ some wr.heap.size := fun e => by have := (hpi.pen.own.lt _ e).2; omega
      have c0 := hx1.cell 0
      have c1 := hx1.cell 1
      have f0 := hx1.frozen 0
      have f1 := hx1.frozen 1
      clear hb1
      by_cases hck : checkN k xl.length = 0
      · obtain ⟨hk, hn0, _⟩ := checkN_ok hck
        have hs1 := hlow1.size
        have hs2 := hp1.fr.size
        generalize w1 = W at *
        by_cases hk1 : k = 1
        · rw [leafB_file hck hk1] at HLn
          rw [hck]
          subst hk1
          go_wp2_with fail
          refine (Num_any base pb v' Li _ _ [1] (fun b => W.heap.size ≤ b) _ (hp1.pen.alloc _) (Rd.lit rfl rfl (by simp)) ?_ ?_ ?_ ?_).mono ?_
          · rintro b' _ hb' (rfl | e)
            · have := hp1.pen.blk.lt; omega
            · have := (hp1.pen.own.lt _ e).2; omega
          · simp
          · simp; omega
          · simp; omega
          rintro e w3 ⟨rfl, v3, h3⟩
          have hp3 := hp1.trans (PenTo.after hp1.pen ((Below.refl _ _).alloc (Nat.le_refl _) _) h3)
          have hx3 := box_keep h3 (hx1.alloc _) hn1 hn2
          rw [List.flatMap_cons, List.flatMap_nil, List.append_nil] at hp3
          have e0 := hx3.cell 0
          have e1 := hx3.cell 1
          have hxs : BV.ok w3 (fun b => Z b ∧ b < w.heap.size) ⟨xA, xc, xl⟩ := (BV.ok.mono (Z' := fun b => Z b ∧ b < w.heap.size) hxok (fun b h1 h2 => ⟨h2, h1⟩)).fr hp3.fr (fun b _ h2 => hZ b h2.2 h2.1)
          have hn := numB_len 1
          have hs3 := hp3.fr.size
          have hat3 := hp3.at_
          go_wp2_with fail
          refine (Text_any base pb v3 (Li ++ numB 1) _ _ [⟨xA, xc, xl⟩] (fun b => (Z b ∧ b < w.heap.size) ∨ w3.heap.size ≤ b) _ (hp3.pen.alloc _) ((Rd.lit rfl rfl (by simp)).mono (fun b _ hb => .inr hb)) ?_ ?_ ?_ ?_).mono ?_
          · intro y hy
            obtain rfl := List.mem_singleton.1 hy
            exact BV.ok.mono (BV.ok.below (w := w3) hxs ((Below.refl _ _).alloc (Nat.le_refl _) _)) (fun b _ hb => .inl hb)
          · rintro b' _ hb' he
            rcases hb' with hb' | hb'
            · refine hZ b' hb'.2 hb'.1 ?_
              rcases he with he | he
              · exact .inl he
              · rcases hat3 with e | ⟨g, e, hg⟩
                · exact .inr (by rw [← e]; exact he)
                · rw [e] at he
                  injection he with he
                  omega
            · rcases he with he | he
              · have := hp3.pen.blk.lt; omega
              · have := (hp3.pen.own.lt _ he).2; omega
          · simp; omega
          · rw [List.length_append]; simp [wide]; omega
          rintro e w4 ⟨rfl, v4, h4⟩
          have hp4 := hp3.trans (PenTo.after hp3.pen ((Below.refl _ _).alloc (Nat.le_refl _) _) h4)
          rw [List.flatMap_cons, List.flatMap_nil, List.append_nil, List.append_assoc] at hp4
          go_wp2_with fail
          go_roundw
          case rel => exact ⟨i + 1, _, v4, hlt, by go_num, hp4, HLn⟩
          case measure => simp [intOf]; omega
        · rw [leafB_other hck hk1] at HLn
          have hk1b : (k == 1) = false := by simpa using hk1
          rw [hck]
          obtain ⟨n, rfl⟩ : ∃ n : Nat, k = n := ⟨k.toNat, by omega⟩
          rw [Int.toNat_natCast] at HLn
          have hnle : n ≤ 2 := by omega
          go_wp2_with fail
          refine (Num_any base pb v' Li _ _ [n] (fun b => W.heap.size ≤ b) _ (hp1.pen.alloc _) (Rd.lit rfl rfl (by simp)) ?_ ?_ ?_ ?_).mono ?_
          · rintro b' _ hb' (rfl | e)
            · have := hp1.pen.blk.lt; omega
            · have := (hp1.pen.own.lt _ e).2; omega
          · simp; omega
          · simp; omega
          · simp; omega
          rintro e w3 ⟨rfl, v3, h3⟩
          have hp3 := hp1.trans (PenTo.after hp1.pen ((Below.refl _ _).alloc (Nat.le_refl _) _) h3)
          have hx3 := box_keep h3 (hx1.alloc _) hn1 hn2
          rw [List.flatMap_cons, List.flatMap_nil, List.append_nil] at hp3
          have e0 := hx3.cell 0
          go_wp2_with fail
          go_roundw
          case rel => exact ⟨i + 1, _, v3, hlt, by go_num, hp3, HLn⟩
          case measure => simp [intOf]; omega
      · rw [leafB_bad hck] at HLn
        have hckb : (checkN k xl.length != 0) = true := by simpa using hck
        go_wp2_with fail
        obtain ⟨hx2, hf2⟩ := Blk.two (x' := .int .i64 0) (y' := .slice none 0 0) hx1
        have hp2 := hp1.side hf2 hsz hn1 hn2
        have hsz2 := hf2.size
        have hz2 : ((w1.setCell ⟨wr.heap.size, 0, none⟩ (.int .i64 0)).setCell ⟨wr.heap.size, 1, none⟩ (.slice none 0 0)).heap.size = w1.heap.size := by simp
        rw [← hz2]
        clear c0 c1 f0 f1 hx1 hf2
        generalize (w1.setCell ⟨wr.heap.size, 0, none⟩ (.int .i64 0)).setCell ⟨wr.heap.size, 1, none⟩ (.slice none 0 0) = W at *
        have hs1 := hlow1.size
        have hs2 := hp2.fr.size
        refine (Num_any base pb v' Li _ _ [0] (fun b => W.heap.size ≤ b) _ (hp2.pen.alloc _) (Rd.lit rfl rfl (by simp)) ?_ ?_ ?_ ?_).mono ?_
        · rintro b' _ hb' (rfl | e)
          · have := hp2.pen.blk.lt; omega
          · have := (hp2.pen.own.lt _ e).2; omega
        · simp
        · simp; omega
        · simp; omega
        rintro e w3 ⟨rfl, v3, h3⟩
        have hp3 := hp2.trans (PenTo.after hp2.pen ((Below.refl _ _).alloc (Nat.le_refl _) _) h3)
        have hx3 := box_keep h3 (hx2.alloc _) hn1 hn2
        rw [List.flatMap_cons, List.flatMap_nil, List.append_nil] at hp3
        have e0 := hx3.cell 0
        go_wp2_with fail
        go_roundw
        case rel => exact ⟨i + 1, _, v3, hlt, by go_num, hp3, HLn⟩
        case measure => simp [intOf]; omega
    · have e : i = ls.length := by omega
      go_wp2_with fail
      go_end0
      subst e
      refine ⟨rfl, v', ?_⟩
      have hL : Li = l ++ ls.flatMap fun o => leafB o.k o.x.l := by rw [hLi.out, List.take_length]
      rw [← hL]
      exact hpi
end Go.Proofs.YtjcfphdjgagimaaGreatDoor

/- Reading numbers, as a plain function. -/
namespace Go.Proofs.YtjcfphdjgagimaaGreatDoor
open Go.RowKit

/-- the number of bytes, highest first -/
def val (l : List UInt8) : Nat := l.foldl (fun n d => n * 256 + d.toNat) 0
/-- behind a failure -/
def failS (l : List UInt8) (f code : Int) : List UInt8 × Int := if f = 0 ∧ code ≠ 0 then ([], code) else (l, f)
/-- a number is read: the number, what is left, the fault -/
def readS (l : List UInt8) (f : Int) (most : Nat) : Nat × List UInt8 × Int :=
  if f ≠ 0 then (0, l, f)
  else match l with
    | [] => (0, [], 11)
    | c :: r =>
      if 8 < c.toNat then (0, [], 10)
      else if r.length < c.toNat then (0, [], 11)
      else if 0 < c.toNat ∧ r.getD 0 0 = 0 then (0, [], 10)
      else if most < val (r.take c.toNat) then (0, [], 13)
      else (val (r.take c.toNat), r.drop c.toNat, 0)

theorem val_snoc (l : List UInt8) (d : UInt8) : val (l ++ [d]) = val l * 256 + d.toNat := by unfold val; rw [List.foldl_append]; rfl
theorem val_aux : ∀ (l : List UInt8) (n : Nat), l.foldl (fun n d => n * 256 + d.toNat) n < (n + 1) * 256 ^ l.length
  | [], n => by simp
  | d :: l, n => by
    have h := val_aux l (n * 256 + d.toNat)
    have hd := d.toNat_lt
    rw [List.foldl_cons, List.length_cons, Nat.pow_succ]
    refine Nat.lt_of_lt_of_le h ?_
    rw [Nat.mul_comm (256 ^ l.length) 256, ← Nat.mul_assoc]
    exact Nat.mul_le_mul_right _ (by omega)
theorem val_lt (l : List UInt8) : val l < 256 ^ l.length := by simpa [val] using val_aux l 0
theorem val_lt64 {l : List UInt8} (h : l.length ≤ 8) : val l < 18446744073709551616 := Nat.lt_of_lt_of_le (val_lt l) (pow_le8 h)
theorem val_take {l : List UInt8} {i : Nat} (hi : i < l.length) : val (l.take (i + 1)) = val (l.take i) * 256 + (l.getD i 0).toNat := by
  rw [List.take_succ_eq_append_getElem hi, val_snoc, List.getD_eq_getElem?_getD, List.getElem?_eq_getElem hi]
  rfl
theorem or_byte {n : Nat} {d : UInt8} (h : n < 256 ^ 7) : bits .or .u64 ((n : Int) * 256) (d.toNat : Int) = ((n * 256 + d.toNat : Nat) : Int) := by
  have hd := d.toNat_lt
  rw [u64_or _ _ (by omega) (by omega) (by omega) (by omega)]
  have e : ((n : Int) * 256).toNat = n * 256 := by omega
  rw [e, Int.toNat_natCast, nat_join 8 (n * 256) d.toNat (by omega) (by omega)]
end Go.Proofs.YtjcfphdjgagimaaGreatDoor
