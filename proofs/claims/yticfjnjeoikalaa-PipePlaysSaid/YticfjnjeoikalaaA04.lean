/- tenderref16: pipes as values; copied, All, Send. -/
import Derived.Test.YticfjnjeoikalaaA03

namespace Go.Proofs.Yticfjnjeoikalaa
open Go.RowKit

theorem par2_info : (Try.prog.info? 62).map (fun i => (i.zero, i.size, i.bytes)) = some (some (.agg #[.slice none 0 0, .bool false, .bool false]), 3, 32) := by kernel_rfl
/-- parcels of the document's, in a row of the call's own -/
abbrev ParsR (w : World) (base : Nat) (A : Option Addr) (c : Nat) (ls : List PV) : Prop := Row w base 62 3 A ls.length c (ls.flatMap PV.cells)
/-- the document's pipe as a value -/
structure RefP (w : World) (Z : Nat → Prop) (A : Option Addr) (c : Nat) (ls : List PV) : Prop where
  rd : Rd w Z 3 A ls.length (ls.flatMap PV.cells)
  room : ls.length ≤ c
  cap : c ≤ maxLen
  ok : ∀ p ∈ ls, p.x.ok w Z
namespace RefP
variable {w w' : World} {Z Z' : Nat → Prop} {A : Option Addr} {c : Nat} {ls : List PV}
theorem fr {S : Nat → Prop} (h : RefP w Z A c ls) (k : Fr S w w') (hs : ∀ b, b < w.heap.size → Z b → ¬ S b) : RefP w' Z A c ls := ⟨h.rd.fr k hs, h.room, h.cap, fun p hp => (h.ok p hp).fr k hs⟩
theorem below (h : RefP w Z A c ls) (k : Below w.heap.size w w') : RefP w' Z A c ls := h.fr (Fr.of_below k (fun _ => False)) (fun _ _ _ h => h)
theorem mono (h : RefP w Z A c ls) (hz : ∀ b, b < w.heap.size → Z b → Z' b) : RefP w Z' A c ls := ⟨h.rd.mono hz, h.room, h.cap, fun p hp => (h.ok p hp).mono hz⟩
theorem nil (w : World) : RefP w Z none 0 [] := ⟨Rd.nil, Nat.le_refl _, by simp [maxLen], by simp⟩
theorem par (h : RefP w Z A c ls) {i : Nat} (hi : i < ls.length) : ∃ g off, A = some ⟨g, off, none⟩ ∧ Z g ∧ g < w.heap.size ∧ w.cell? ⟨g, off + i * 3, none⟩ = some (.slice ls[i].x.A ls[i].x.l.length ls[i].x.c) ∧
    w.cell? ⟨g, off + i * 3 + 1, none⟩ = some (.bool ls[i].b) ∧ w.cell? ⟨g, off + i * 3 + 2, none⟩ = some (.bool ls[i].d) := by
  obtain ⟨g, off, hA, hz, hb, hc⟩ := h.rd.2 (by omega)
  have hg : ∀ j, j < 3 → (ls.flatMap PV.cells)[i * 3 + j]? = (PV.cells ls[i])[j]? := fun j hj => flat_get (k := 3) (fun _ => rfl) ls i j hi hj
  refine ⟨g, off, hA, hz, hb, hc _ _ (hg 0 (by omega)), ?_, ?_⟩
  · rw [Nat.add_assoc]; exact hc _ _ (hg 1 (by omega))
  · rw [Nat.add_assoc]; exact hc _ _ (hg 2 (by omega))
theorem of_row {base : Nat} (h : ParsR w base A c ls) (hZ : ∀ b, base ≤ b → Z b) (ok : ∀ p ∈ ls, p.x.ok w Z) : RefP w Z A c ls :=
  ⟨h.rd.mono (fun b _ hb => hZ b (h.lt b hb).1), h.room, h.cap, ok⟩
end RefP
theorem grown_belowP {B : Nat} {w w' : World} {row : Option Nat} (h : w.grownBy w' row) (hB : B ≤ w.heap.size) (hr : ∀ g, row = some g → B ≤ g) : Below B w w' := ⟨h.os, h.tape, h.output, h.size, fun k hk => h.block k (by omega) (fun e => by have := hr k e.symm; omega)⟩
theorem ParsR.lit0 (w : World) (base : Nat) (hb : base ≤ w.heap.size) : ParsR (w.alloc (.cells #[] 62)) base (some ⟨w.heap.size, 0, none⟩) 0 [] :=
  ⟨by simp, Nat.le_refl _, by simp [maxLen], fun h => (by cases h), fun a ha => by
    injection ha with ha
    subst ha
    exact ⟨w.heap.size, 0, _, rfl, hb, Blk.new w _ _, by simp, by simp⟩⟩
theorem wp_append_pars {w : World} {o : Oper} {a : Act} {K : Act → World → Prop} {Q : Exit → Act → World → Prop} (s x : Operand)
    (ho : o.op = .call { callee := .builtin .append, args := #[s, x], argTypes := #[27, 27] })
    {base : Nat} {A B : Option Addr} {c d : Nat} {L N : List PV} {Z : Nat → Prop} (hs : a.eval s = .slice A L.length c) (hrow : ParsR w base A c L) (hx : a.eval x = .slice B N.length d) (hr : Rd w Z 3 B N.length (N.flatMap PV.cells))
    (hsum : L.length + N.length ≤ 2000000) (hbase : base ≤ w.heap.size)
    (h : ∀ (A' : Option Addr) (c' : Nat) (w' : World), ParsR w' base A' c' (L ++ N) → Below base w w' → w.grownBy w' (ablk A) → K (a.put o.dst (.slice A' (L.length + N.length) c')) w') : o.wp Try.prog a w K Q := by
  obtain ⟨i0, hi0, hz0, hz1, hz2⟩ := info_parts par2_info
  refine wp_append_row w s x _ ho base 62 i0 _ 3 32 Try.underlying27 hi0 hz0 hz1 hz2 rfl (by omega) hs hrow hx hr (par_one N) (by simp only [maxLen]; omega) (by omega) hbase ?_
  intro A' c' w' h1 h2 h3
  refine h A' c' w' ?_ (grown_belowP h2 hbase (fun g e => (hrow.lt g e).1)) h2
  unfold ParsR
  rw [List.length_append, List.flatMap_append]
  exact h1
theorem wpList_append_pars {w : World} {ops : Array Oper} {rest : List Oper} {o : Oper} {a : Act} {Q : Exit → Act → World → Prop} (hgd : o.guard = none) (s x : Operand)
    (ho : o.op = .call { callee := .builtin .append, args := #[s, x], argTypes := #[27, 27] })
    {base : Nat} {A B : Option Addr} {c d : Nat} {L N : List PV} {Z : Nat → Prop} (hs : a.eval s = .slice A L.length c) (hrow : ParsR w base A c L) (hx : a.eval x = .slice B N.length d) (hr : Rd w Z 3 B N.length (N.flatMap PV.cells))
    (hsum : L.length + N.length ≤ 2000000) (hbase : base ≤ w.heap.size)
    (h : ∀ (A' : Option Addr) (c' : Nat) (w' : World), ParsR w' base A' c' (L ++ N) → Below base w w' → w.grownBy w' (ablk A) → wpList Try.prog ops Q rest (a.put o.dst (.slice A' (L.length + N.length) c')) w') : wpList Try.prog ops Q (o :: rest) a w :=
  wpList_plain hgd fun _ hK => wp_append_pars s x ho hs hrow hx hr hsum hbase fun A' c' w' h1 h2 h3 => hK _ _ (h A' c' w' h1 h2 h3)

set_option maxRecDepth 100000 in
set_option maxHeartbeats 1000000 in
theorem copied_any (A : Option Addr) (c : Nat) (ls : List PV) (cl : Bool) (Z : Nat → Prop) (w : World) (h : RefP w Z A c ls) (hn : ls.length ≤ 1000000) :
    Calls Try.prog 29 #[.agg #[.slice A ls.length c, .bool cl]] w fun e w' => ∃ (A' : Option Addr) (c' : Nat), e = .returned (.agg #[.slice A' ls.length c', .bool cl]) ∧ ParsR w' w.heap.size A' c' ls ∧ Below w.heap.size w w' := by
  have hw2 : Below w.heap.size w ((w.alloc (.cells #[.slice A ls.length c, .bool cl] 29)).alloc (.cells #[.slice none 0 0, .bool false] 29)) := ((Below.refl _ _).alloc (Nat.le_refl _) _).alloc (by simp) _
  have x0 : Blk ((w.alloc (.cells #[.slice A ls.length c, .bool cl] 29)).alloc (.cells #[.slice none 0 0, .bool false] 29)) w.heap.size 29 #[.slice A ls.length c, .bool cl] := (Blk.new w 29 #[.slice A ls.length c, .bool cl]).below ((Below.refl _ _).alloc (Nat.le_refl _) _)
  have x1 : Blk ((w.alloc (.cells #[.slice A ls.length c, .bool cl] 29)).alloc (.cells #[.slice none 0 0, .bool false] 29)) (w.heap.size + 1) 29 #[.slice none 0 0, .bool false] := by
    have := Blk.new (w.alloc (.cells #[.slice A ls.length c, .bool cl] 29)) 29 #[.slice none 0 0, .bool false]
    rwa [show (w.alloc (.cells #[.slice A ls.length c, .bool cl] 29)).heap.size = w.heap.size + 1 by simp] at this
  have HR := Lib.hid h.rd
  clear h
  go_enter Try.func29, Try.ntmps29
  go_upto_region 1 with (fail)
  generalize ((w.alloc (.cells #[.slice A ls.length c, .bool cl] 29)).alloc (.cells #[.slice none 0 0, .bool false] 29)) = w2 at *
  refine wp_region_line (.tell 1 (.tell 2 (.tell 4 (.tell 5 (.one 0 (.one 3 (.tell 6 .done))))))) (fun W => Below w2.heap.size w2 W) (by kernel_rfl) (by kernel_rfl) ?_
  refine pl_val (by (simp only [List.getElem?_toArray, List.getElem?_cons_succ, List.getElem?_cons_zero]; rfl)) (by kernel_rfl) ⟨_, (by (intro w' hC; clear hC; (try go_simp); (try with_reducible rfl); done)), _, (by (simp only [Act.put, List.setIfInBounds_toArray, List.set_cons_zero, List.set_cons_succ]; rfl)), ?_⟩
  refine pl_val (by (simp only [List.getElem?_toArray, List.getElem?_cons_succ, List.getElem?_cons_zero]; rfl)) (by kernel_rfl) ⟨_, (by (intro w' hC; have q := (x0.below hC).cell 0; simp only [List.getElem?_toArray, List.getElem?_cons_zero] at q; clear hC; (try go_simp); (try with_reducible rfl); done)), _, (by (simp only [Act.put, List.setIfInBounds_toArray, List.set_cons_zero, List.set_cons_succ]; rfl)), ?_⟩
  refine pl_val (by (simp only [List.getElem?_toArray, List.getElem?_cons_succ, List.getElem?_cons_zero]; rfl)) (by kernel_rfl) ⟨_, (by (intro w' hC; clear hC; (try go_simp); (try with_reducible rfl); done)), _, (by (simp only [Act.put, List.setIfInBounds_toArray, List.set_cons_zero, List.set_cons_succ]; rfl)), ?_⟩
  refine pl_val (by (simp only [List.getElem?_toArray, List.getElem?_cons_succ, List.getElem?_cons_zero]; rfl)) (by kernel_rfl) ⟨_, (by (intro w' hC; have q := (x0.below hC).cell 1; simp only [List.getElem?_toArray, List.getElem?_cons_zero, List.getElem?_cons_succ] at q; clear hC; (try go_simp); (try with_reducible rfl); done)), _, (by (simp only [Act.put, List.setIfInBounds_toArray, List.set_cons_zero, List.set_cons_succ]; rfl)), ?_⟩
  have hB : Below w2.heap.size w2 w2.drew := (Below.refl _ _).drew
  generalize w2.drew = wd at *
  refine pl_one (by (simp only [List.getElem?_toArray, List.getElem?_cons_zero]; rfl)) hB ?_
  refine al_val (by kernel_rfl) ⟨_, _, (by (go_simp; first | done | exact ⟨rfl, rfl⟩)), _, (by (simp only [Act.put, List.setIfInBounds_toArray, List.set_cons_zero, List.set_cons_succ]; rfl)), ?_⟩
  have own := ParsR.lit0 wd w2.heap.size hB.size
  have hB1 : Below w2.heap.size w2 (wd.alloc (.cells #[] 62)) := hB.alloc hB.size _
  generalize wd.alloc (.cells #[] 62) = wA at *
  refine pl_one (by (simp only [List.getElem?_toArray, List.getElem?_cons_succ, List.getElem?_cons_zero]; rfl)) hB1 ?_
  refine al_wp (by kernel_rfl) (wp_append_pars (L := []) (N := ls) (.tmp 3) (.tmp 5) rfl rfl own rfl (HR.out.below (hw2.trans (hB1.mono hw2.size))) (by simp; omega) hB1.size ?_)
  intro A1 c1 wB own1 hb1 _
  have hB2 := hB1.trans hb1
  rw [List.nil_append] at own1
  rw [show ([] : List PV).length + ls.length = ls.length by simp]
  simp only [Act.put, List.setIfInBounds_toArray, List.set_cons_zero, List.set_cons_succ]
  refine pl_val (by (simp only [List.getElem?_toArray, List.getElem?_cons_succ, List.getElem?_cons_zero]; rfl)) (by kernel_rfl) ⟨_, (by (intro w' hC; clear hC; (try go_simp); (try with_reducible rfl); done)), _, (by (simp only [Act.put, List.setIfInBounds_toArray, List.set_cons_zero, List.set_cons_succ]; rfl)), ?_⟩
  refine pl_end hB2 ?_
  simp only [Plan.count, Nat.reduceAdd, List.drop_succ_cons, List.drop_zero]
  have lx1 := x1.lt
  replace x1 := x1.below hB2
  have hw3 := hw2.trans (hB2.mono hw2.size)
  have l2 := hw2.size
  have r0 := x1.cell 0
  have r1 := x1.cell 1
  simp only [List.getElem?_toArray, List.getElem?_cons_zero, List.getElem?_cons_succ] at r0 r1
  have fr := fun o => x1.frozen o
  clear hB1 hB own HR
  go_wp2_with fail
  have kR : Fr (fun x => x = w.heap.size + 1) wB ((wB.setCell ⟨w.heap.size + 1, 0, none⟩ (.slice A1 ls.length c1)).setCell ⟨w.heap.size + 1, 1, none⟩ (.bool cl)) := (((Fr.refl (fun x => x = w.heap.size + 1) wB).setAt (w.heap.size + 1) _ rfl _).setAt (w.heap.size + 1) _ rfl _)
  have yR := ((x1.set_ 0 (.slice A1 ls.length c1)).set_ 1 (.bool cl))
  simp only [List.setIfInBounds_toArray, List.set_cons_zero, List.set_cons_succ] at yR
  have hwR : Below w.heap.size w ((wB.setCell ⟨w.heap.size + 1, 0, none⟩ (.slice A1 ls.length c1)).setCell ⟨w.heap.size + 1, 1, none⟩ (.bool cl)) := hw3.trans (kR.below (B := w.heap.size) hw3.size (fun k hk e => by omega))
  generalize ((wB.setCell ⟨w.heap.size + 1, 0, none⟩ (.slice A1 ls.length c1)).setCell ⟨w.heap.size + 1, 1, none⟩ (.bool cl)) = wR at *
  have s0 := yR.cell 0
  have s1 := yR.cell 1
  simp only [List.getElem?_toArray, List.getElem?_cons_zero, List.getElem?_cons_succ] at s0 s1
  refine bodyPost_ret (v := .agg #[.slice A1 ls.length c1, .bool cl]) (by simp [results, Try.results29, go_sem, s0, s1]) rfl ?_
  exact ⟨A1, c1, rfl, (own1.fr kR (fun g hg e => by have := (own1.lt g hg).1; omega)).rebase (fun g hg => Nat.le_trans l2 (own1.lt g hg).1), hwR⟩
set_option maxRecDepth 100000 in
set_option maxHeartbeats 1000000 in
theorem all16_any (A : Option Addr) (c : Nat) (ls : List PV) (cl : Bool) (Z : Nat → Prop) (w : World) (h : RefP w Z A c ls) (hn : ls.length ≤ 1000000) (hb : (flatP (ls.map PV.s)).length ≤ 1000000) :
    Calls Try.prog 23 #[.agg #[.slice A ls.length c, .bool cl]] w fun e w' => ∃ (A' : Option Addr) (c' : Nat) (l' : List UInt8), e = .returned (.slice A' l'.length c') ∧ Hid (l' = flatP (ls.map PV.s)) ∧ OwB w' w.heap.size (.slice A' l'.length c') l' ∧ Below w.heap.size w w' := by
  have hw1 : Below w.heap.size w (w.alloc (.cells #[.slice A ls.length c, .bool cl] 29)) := (Below.refl _ _).alloc (Nat.le_refl _) _
  have x0 : Blk (w.alloc (.cells #[.slice A ls.length c, .bool cl] 29)) w.heap.size 29 #[.slice A ls.length c, .bool cl] := Blk.new w 29 #[.slice A ls.length c, .bool cl]
  have HR := Lib.hid (h.below hw1)
  clear h
  go_enter Try.func23, Try.ntmps23
  go_upto_region 1 with (fail)
  generalize (w.alloc (.cells #[.slice A ls.length c, .bool cl] 29)) = w1 at *
  go_wp2_with fail
  go_loopw [3, 4] (fun ov iv wr => ∃ (i : Nat) (L : List UInt8) (A2 : Option Addr) (c2 : Nat), i ≤ ls.length ∧ iv = .int .i64 (i : Int) ∧ ov = .slice A2 L.length c2 ∧ OwB wr w1.heap.size (.slice A2 L.length c2) L ∧ Hid (L = flatP ((ls.map PV.s).take i)) ∧ Below w1.heap.size w1 wr) (fun _ iv _ => ls.length - (intOf iv).toNat)
  case atStart => exact ⟨0, [], none, 0, Nat.zero_le _, rfl, rfl, OwB.nil _ _, Lib.hid (by simp [flatP]), Below.refl _ _⟩
  case round =>
    obtain ⟨i, L, A2, c2, hi, rfl, rfl, hown, hL, hlow⟩ := hrel
    have y0 := x0.below hlow
    have q0 := y0.cell 0
    simp only [List.getElem?_toArray, List.getElem?_cons_zero] at q0
    by_cases hlt : i < ls.length
    · have hr := HR.out.below hlow
      obtain ⟨g, off, hA, _, hgl, c0, c1, c2'⟩ := hr.par hlt
      have hxy := (hr.ok _ (List.getElem_mem hlt)).by_
      have hst : flatP ((ls.map PV.s).take (i + 1)) = flatP ((ls.map PV.s).take i) ++ ls[i].x.l := by
        unfold flatP
        rw [List.take_succ_eq_append_getElem (by simpa using hlt), List.flatMap_append, List.getElem_map]
        simp [PV.s]
      have hm := flatP_mono (ls.map PV.s) (i + 1)
      rw [hst, List.length_append] at hm
      have hLl : L.length + ls[i].x.l.length ≤ 1000000 := by rw [hL.out]; omega
      have HST : Hid (L ++ ls[i].x.l = flatP ((ls.map PV.s).take (i + 1))) := Lib.hid (by rw [hst, hL.out])
      have hsz := hlow.size
      subst hA
      clear hst hm hL c1 c2'
      generalize ls[i] = p at *
      obtain ⟨⟨pA, pc, pl⟩, pb', pd⟩ := p
      dsimp only at *
      go_wp2_with (at_builtin; refine wpList_append_by rfl (.tmp 12) (.tmp 18) rfl rfl hown rfl hxy (by omega) hsz ?_; intro L3 A3 c3 w3 hL3 own3 hg3 hat3; have hb3 := hlow.trans (grown_belowP hg3 hsz (fun g e => (hown.lt g e).1)); clear hg3 hat3)
      go_roundw
      case rel => exact ⟨i + 1, L3, A3, c3, hlt, by go_num, rfl, own3, Lib.hid (by rw [hL3.out, HST.out]), hb3⟩
      case measure => simp [intOf]; omega
    · have e : i = ls.length := by omega
      have HLE : Hid (L = flatP (ls.map PV.s)) := Lib.hid (by rw [hL.out, e, List.take_of_length_le (by simp)])
      clear hL e
      go_wp2_with fail
      go_ret
      exact ⟨A2, c2, L, rfl, HLE, own_base hown (fun g hg => Nat.le_trans hw1.size (hown.lt g hg).1), hw1.trans (hlow.mono hw1.size)⟩


set_option maxRecDepth 100000 in
set_option maxHeartbeats 2000000 in
theorem refSend_any (A : Option Addr) (c : Nat) (ls : List PV) (cl : Bool) (Z : Nat → Prop) (w : World) (h : RefP w Z A c ls) (hn : ls.length ≤ 900000) (B : Option Addr) (d : Nat) (l : List UInt8) (hy : BV.ok w Z ⟨B, d, l⟩) (hZ : ∀ b, w.heap.size ≤ b → Z b) :
    Calls Try.prog 14 #[.agg #[.slice A ls.length c, .bool cl], .slice B l.length d] w fun e w' => ∃ (A' : Option Addr) (c' : Nat) (ls' : List PV), e = .returned (.tuple #[.agg #[.slice A' ls'.length c', .bool cl], .bool (!cl && decide (0 < l.length))]) ∧ RefP w' Z A' c' ls' ∧ Hid (ls'.map PV.s = if cl = false ∧ 0 < l.length then ls.map PV.s ++ [(l, false, false)] else ls.map PV.s) ∧ Below w.heap.size w w' := by
  have hw2 : Below w.heap.size w ((w.alloc (.cells #[.slice A ls.length c, .bool cl] 29)).alloc (.cells #[.slice none 0 0, .bool false] 29)) := ((Below.refl _ _).alloc (Nat.le_refl _) _).alloc (by simp) _
  have x0 : Blk ((w.alloc (.cells #[.slice A ls.length c, .bool cl] 29)).alloc (.cells #[.slice none 0 0, .bool false] 29)) w.heap.size 29 #[.slice A ls.length c, .bool cl] := (Blk.new w 29 #[.slice A ls.length c, .bool cl]).below ((Below.refl _ _).alloc (Nat.le_refl _) _)
  have x1 : Blk ((w.alloc (.cells #[.slice A ls.length c, .bool cl] 29)).alloc (.cells #[.slice none 0 0, .bool false] 29)) (w.heap.size + 1) 29 #[.slice none 0 0, .bool false] := by
    have := Blk.new (w.alloc (.cells #[.slice A ls.length c, .bool cl] 29)) 29 #[.slice none 0 0, .bool false]
    rwa [show (w.alloc (.cells #[.slice A ls.length c, .bool cl] 29)).heap.size = w.heap.size + 1 by simp] at this
  obtain ⟨S, hS⟩ : ∃ S, S = (if cl = false ∧ 0 < l.length then ls.map PV.s ++ [(l, false, false)] else ls.map PV.s) := ⟨_, rfl⟩
  rw [← hS]
  have HR := Lib.hid (h.below hw2)
  have HH := Lib.hid h
  have HYY := Lib.hid hy
  clear h hy
  by_cases hgo : cl = false ∧ 0 < l.length
  · obtain ⟨rfl, hl⟩ := hgo
    have HS : Hid ((ls ++ [⟨⟨B, d, l⟩, false, false⟩] : List PV).map PV.s = S) := Lib.hid (by rw [hS, if_pos ⟨rfl, hl⟩, List.map_append]; rfl)
    clear hS
    rw [show (!false && decide (0 < l.length)) = true by simp [hl]]
    have hl1 : ((l.length : Int) == 0) = false := by rw [beq_eq_false_iff_ne]; omega
    have HC := Lib.hid (fun (W : World) (hW : RefP W Z A c ls) => copied_any A c ls false Z W hW (by omega))
    clear hl
    go_enter Try.func14, Try.ntmps14
    go_upto_region 1 with (fail)
    generalize ((w.alloc (.cells #[.slice A ls.length c, .bool false] 29)).alloc (.cells #[.slice none 0 0, .bool false] 29)) = w2 at *
    have q0 := x0.cell 0
    have q1 := x0.cell 1
    simp only [List.getElem?_toArray, List.getElem?_cons_zero, List.getElem?_cons_succ] at q0 q1
    go_wp2_with fail
    refine (HC.out w2 HR.out).mono ?_
    rintro e w3 ⟨A3, c3, rfl, row3, hb3⟩
    have hw3 := hw2.trans (hb3.mono hw2.size)
    have l2 := hw2.size
    have hba : Below w3.heap.size w3 (w3.alloc (.cells #[.slice A3 ls.length c3, .bool false] 29)) := (Below.refl _ _).alloc (Nat.le_refl _) _
    have yq : Blk (w3.alloc (.cells #[.slice A3 ls.length c3, .bool false] 29)) w3.heap.size 29 #[.slice A3 ls.length c3, .bool false] := Blk.new w3 29 _
    have u1 := (x1.below hb3).below hba
    have row4 := row3.below hba
    have hw4 := hw3.trans (hba.mono hw3.size)
    obtain ⟨qb, hqb⟩ : ∃ qb, qb = w3.heap.size := ⟨_, rfl⟩
    have lx1 := (x1.below hb3).lt
    rw [← hqb] at yq lx1
    have l23 := hb3.size
    have l2w : w.heap.size + 1 < w2.heap.size := x1.lt
    go_upto_region 4 with (fail)
    rw [← hqb]
    generalize (w3.alloc (.cells #[.slice A3 ls.length c3, .bool false] 29)) = w4 at *
    have hq23 : w2.heap.size ≤ qb := by omega
    clear hqb HC HR q0 q1 x0 x1 hb3 hba
    have z4 := yq.lt
    have hwa : Below w4.heap.size w4 (w4.alloc (.cells #[.slice B l.length d, .bool false, .bool false] 62)) := (Below.refl _ _).alloc (Nat.le_refl _) _
    have ROW := Lib.hid (row4.alloc (.cells #[.slice B l.length d, .bool false, .bool false] 62))
    have yqa := yq.below hwa
    have u1a := u1.below hwa
    have HRL : Hid (Rd (w4.alloc (.cells #[.slice B l.length d, .bool false, .bool false] 62)) (fun _ => True) 3 (some ⟨w4.heap.size, 0, none⟩) ([⟨⟨B, d, l⟩, false, false⟩] : List PV).length (([⟨⟨B, d, l⟩, false, false⟩] : List PV).flatMap PV.cells)) := Lib.hid ((Rd.lit (xs := [.slice B l.length d, .bool false, .bool false]) (n := 1) rfl rfl rfl).mono (fun _ _ _ => trivial))
    have p0 := yq.cell 0
    simp only [List.getElem?_toArray, List.getElem?_cons_zero] at p0
    go_upto_region 5 with (at_builtin; refine wpList_append_pars (L := ls) (N := [⟨⟨B, d, l⟩, false, false⟩]) rfl (.tmp 18) (.tmp 21) rfl rfl ROW.out rfl HRL.out (by simp; omega) (by simp; omega) ?_; intro A5 c5 w5 row5 hb5 hg5; have yq5 := yqa.grown hg5 (ROW.out.ne_blk yqa (by decide)); have u15 := u1a.grown hg5 (ROW.out.ne_blk u1a (by decide)); have hw5 := ((hw4.trans (hwa.mono hw4.size)).trans (hb5.mono hw2.size)); have o0 := yq5.cell 0; have of_ := yq5.frozen 0; simp only [List.getElem?_toArray, List.getElem?_cons_zero] at o0)
    clear p0 o0 of_ ROW HRL row4 yqa u1a hwa hg5
    have k6 : Fr (fun x => x = qb) w5 (w5.setCell ⟨qb, 0, none⟩ (.slice A5 (ls.length + 1) c5)) := (Fr.refl (fun x => x = qb) w5).setAt qb 0 rfl _
    have ne5 := row5.ne_blk yq5 (by decide)
    have row6 := row5.fr k6 (fun g hg e => ne5 (by rw [hg, e]))
    have yq6 := yq5.set_ 0 (.slice A5 (ls.length + 1) c5)
    simp only [List.setIfInBounds_toArray, List.set_cons_zero] at yq6
    have u16 := u15.fr k6 (by omega)
    have hw6 := hw5.trans (k6.below (B := w.heap.size) hw5.size (fun k hk e => by omega))
    generalize (w5.setCell ⟨qb, 0, none⟩ (.slice A5 (ls.length + 1) c5)) = w6 at *
    clear k6 yq5 u15 hw5 row5 hb5 yq u1 hw4 hw3
    have o0 := yq6.cell 0
    have o1 := yq6.cell 1
    simp only [List.getElem?_toArray, List.getElem?_cons_zero, List.getElem?_cons_succ] at o0 o1
    have r0 := u16.cell 0
    have r1 := u16.cell 1
    simp only [List.getElem?_toArray, List.getElem?_cons_zero, List.getElem?_cons_succ] at r0 r1
    have fr := fun o => u16.frozen o
    go_wp2_with fail
    have kR : Fr (fun x => x = w.heap.size + 1) w6 ((w6.setCell ⟨w.heap.size + 1, 0, none⟩ (.slice A5 (ls.length + 1) c5)).setCell ⟨w.heap.size + 1, 1, none⟩ (.bool false)) := (((Fr.refl (fun x => x = w.heap.size + 1) w6).setAt (w.heap.size + 1) _ rfl _).setAt (w.heap.size + 1) _ rfl _)
    have yR := ((u16.set_ 0 (.slice A5 (ls.length + 1) c5)).set_ 1 (.bool false))
    simp only [List.setIfInBounds_toArray, List.set_cons_zero, List.set_cons_succ] at yR
    have hwR : Below w.heap.size w ((w6.setCell ⟨w.heap.size + 1, 0, none⟩ (.slice A5 (ls.length + 1) c5)).setCell ⟨w.heap.size + 1, 1, none⟩ (.bool false)) := hw6.trans (kR.below (B := w.heap.size) hw6.size (fun k hk e => by omega))
    generalize ((w6.setCell ⟨w.heap.size + 1, 0, none⟩ (.slice A5 (ls.length + 1) c5)).setCell ⟨w.heap.size + 1, 1, none⟩ (.bool false)) = wR at *
    have s0 := yR.cell 0
    have s1 := yR.cell 1
    simp only [List.getElem?_toArray, List.getElem?_cons_zero, List.getElem?_cons_succ] at s0 s1
    refine bodyPost_ret (v := .tuple #[.agg #[.slice A5 (ls.length + 1) c5, .bool false], .bool true]) (by simp [results, Try.results14, go_sem, s0, s1]) rfl ?_
    refine ⟨A5, c5, ls ++ [⟨⟨B, d, l⟩, false, false⟩], (by rw [List.length_append]; rfl), RefP.of_row (base := w2.heap.size) (row6.fr kR (fun g hg e => by have := (row6.lt g hg).1; omega)) (fun b hb => hZ b (by omega)) ?_, HS, hwR⟩
    intro p hp
    rcases List.mem_append.1 hp with hp | hp
    · exact (HH.out.ok p hp).below hwR
    · rw [List.mem_singleton.1 hp]; exact HYY.out.below hwR
  · have HS : Hid (ls.map PV.s = S) := Lib.hid (by rw [hS, if_neg hgo])
    clear hS
    have l2 := x1.lt
    rcases cl with _ | _
    · have hl0 : l.length = 0 := by
        rcases Nat.eq_zero_or_pos l.length with h | h
        · exact h
        · exact absurd ⟨rfl, h⟩ hgo
      rw [show (!false && decide (0 < l.length)) = false by simp [hl0]]
      have hl1 : ((l.length : Int) == 0) = true := by rw [beq_iff_eq]; omega
      clear hgo hl0
      go_enter Try.func14, Try.ntmps14
      go_upto_region 1 with (fail)
      generalize ((w.alloc (.cells #[.slice A ls.length c, .bool false] 29)).alloc (.cells #[.slice none 0 0, .bool false] 29)) = w2 at *
      have q0 := x0.cell 0
      have q1 := x0.cell 1
      simp only [List.getElem?_toArray, List.getElem?_cons_zero, List.getElem?_cons_succ] at q0 q1
      have r0 := x1.cell 0
      have r1 := x1.cell 1
      simp only [List.getElem?_toArray, List.getElem?_cons_zero, List.getElem?_cons_succ] at r0 r1
      have fr := fun o => x1.frozen o
      go_wp2_with fail
      have kR : Fr (fun x => x = w.heap.size + 1) w2 ((w2.setCell ⟨w.heap.size + 1, 0, none⟩ (.slice A ls.length c)).setCell ⟨w.heap.size + 1, 1, none⟩ (.bool false)) := (((Fr.refl (fun x => x = w.heap.size + 1) w2).setAt (w.heap.size + 1) _ rfl _).setAt (w.heap.size + 1) _ rfl _)
      have yR := ((x1.set_ 0 (.slice A ls.length c)).set_ 1 (.bool false))
      simp only [List.setIfInBounds_toArray, List.set_cons_zero, List.set_cons_succ] at yR
      have hwR : Below w.heap.size w ((w2.setCell ⟨w.heap.size + 1, 0, none⟩ (.slice A ls.length c)).setCell ⟨w.heap.size + 1, 1, none⟩ (.bool false)) := hw2.trans (kR.below (B := w.heap.size) hw2.size (fun k hk e => by omega))
      generalize ((w2.setCell ⟨w.heap.size + 1, 0, none⟩ (.slice A ls.length c)).setCell ⟨w.heap.size + 1, 1, none⟩ (.bool false)) = wR at *
      have s0 := yR.cell 0
      have s1 := yR.cell 1
      simp only [List.getElem?_toArray, List.getElem?_cons_zero, List.getElem?_cons_succ] at s0 s1
      refine bodyPost_ret (v := .tuple #[.agg #[.slice A ls.length c, .bool false], .bool false]) (by simp [results, Try.results14, go_sem, s0, s1]) rfl ?_
      exact ⟨A, c, ls, rfl, HH.out.below hwR, HS, hwR⟩
    · rw [show (!true && decide (0 < l.length)) = false from rfl]
      clear hgo
      go_enter Try.func14, Try.ntmps14
      go_upto_region 1 with (fail)
      generalize ((w.alloc (.cells #[.slice A ls.length c, .bool true] 29)).alloc (.cells #[.slice none 0 0, .bool false] 29)) = w2 at *
      have q0 := x0.cell 0
      have q1 := x0.cell 1
      simp only [List.getElem?_toArray, List.getElem?_cons_zero, List.getElem?_cons_succ] at q0 q1
      have r0 := x1.cell 0
      have r1 := x1.cell 1
      simp only [List.getElem?_toArray, List.getElem?_cons_zero, List.getElem?_cons_succ] at r0 r1
      have fr := fun o => x1.frozen o
      go_wp2_with fail
      have kR : Fr (fun x => x = w.heap.size + 1) w2 ((w2.setCell ⟨w.heap.size + 1, 0, none⟩ (.slice A ls.length c)).setCell ⟨w.heap.size + 1, 1, none⟩ (.bool true)) := (((Fr.refl (fun x => x = w.heap.size + 1) w2).setAt (w.heap.size + 1) _ rfl _).setAt (w.heap.size + 1) _ rfl _)
      have yR := ((x1.set_ 0 (.slice A ls.length c)).set_ 1 (.bool true))
      simp only [List.setIfInBounds_toArray, List.set_cons_zero, List.set_cons_succ] at yR
      have hwR : Below w.heap.size w ((w2.setCell ⟨w.heap.size + 1, 0, none⟩ (.slice A ls.length c)).setCell ⟨w.heap.size + 1, 1, none⟩ (.bool true)) := hw2.trans (kR.below (B := w.heap.size) hw2.size (fun k hk e => by omega))
      generalize ((w2.setCell ⟨w.heap.size + 1, 0, none⟩ (.slice A ls.length c)).setCell ⟨w.heap.size + 1, 1, none⟩ (.bool true)) = wR at *
      have s0 := yR.cell 0
      have s1 := yR.cell 1
      simp only [List.getElem?_toArray, List.getElem?_cons_zero, List.getElem?_cons_succ] at s0 s1
      refine bodyPost_ret (v := .tuple #[.agg #[.slice A ls.length c, .bool true], .bool false]) (by simp [results, Try.results14, go_sem, s0, s1]) rfl ?_
      exact ⟨A, c, ls, rfl, HH.out.below hwR, HS, hwR⟩

end Go.Proofs.Yticfjnjeoikalaa

/- tenderref16: Drop, Cut. -/
namespace Go.Proofs.Yticfjnjeoikalaa
open Go.RowKit

theorem flat_dropP : ∀ (l : List PV) (k : Nat), (l.flatMap PV.cells).drop (k * 3) = (l.drop k).flatMap PV.cells
  | [], k => by simp
  | p :: l, 0 => by simp
  | p :: l, k + 1 => by
    rw [List.flatMap_cons, List.drop_succ_cons, show (k + 1) * 3 = k * 3 + 1 + 1 + 1 by omega]
    simp only [PV.cells, List.cons_append, List.nil_append, List.drop_succ_cons]
    rw [flat_dropP l k]
theorem Fr.of_belowB {B : Nat} {a b : World} (h : Below B a b) : Fr (fun k => B ≤ k) a b := ⟨h.os, h.tape, h.output, h.size, fun k _ hn => h.block k (Nat.lt_of_not_le hn)⟩
theorem par_slice_head (A : Option Addr) (n c m : Nat) (hm : m ≤ c) (W : World) (hA : A ≠ none) : (Instr.slice 27 (.slice A n c) none (some (.int .i64 (m : Int))) none).run Try.prog W = .ok (.slice A m c) W := by
  rw [run_slice_h W 27 A n c (by kernel_rfl) .i64 (m : Int) (by omega) (by omega)]
  rw [show (sizeOf (Try.prog.elem 27)).run Try.prog W = .ok 3 W by kernel_rfl]
  simp only [Result.andThen, sliced, Int.toNat_natCast]
  rcases A with _ | a
  · simp at hA
  · simp [Addr.add]
theorem par_slice_tail (A : Option Addr) (n c m : Nat) (hm : m ≤ n) (W : World) : (Instr.slice 27 (.slice A n c) (some (.int .i64 (m : Int))) none none).run Try.prog W = .ok (.slice (if c = m then A else A.map (·.add (m * 3))) (n - m) (c - m)) W := by
  rw [run_slice_l W 27 A n c (by kernel_rfl) .i64 (m : Int) (by omega) (by omega)]
  rw [show (sizeOf (Try.prog.elem 27)).run Try.prog W = .ok 3 W by kernel_rfl]
  simp only [Result.andThen, sliced, Int.toNat_natCast]

set_option maxRecDepth 100000 in
set_option maxHeartbeats 2000000 in
theorem refDrop16_any (A : Option Addr) (c : Nat) (ls : List PV) (cl : Bool) (i : Int) (Z : Nat → Prop) (w : World) (h : RefP w Z A c ls) (hn : ls.length ≤ 900000) (hZ : ∀ b, w.heap.size ≤ b → Z b) :
    Calls Try.prog 17 #[.agg #[.slice A ls.length c, .bool cl], .int .i64 i] w fun e w' => ∃ (A' : Option Addr) (c' : Nat) (ls' : List PV), e = .returned (.tuple #[.agg #[.slice A' ls'.length c', .bool cl], .bool (dropI (ls.map PV.s) i).2]) ∧ RefP w' Z A' c' ls' ∧ Hid (ls'.map PV.s = (dropI (ls.map PV.s) i).1) ∧ Below w.heap.size w w' := by
  have hw2 : Below w.heap.size w ((w.alloc (.cells #[.slice A ls.length c, .bool cl] 29)).alloc (.cells #[.slice none 0 0, .bool false] 29)) := ((Below.refl _ _).alloc (Nat.le_refl _) _).alloc (by simp) _
  have x0 : Blk ((w.alloc (.cells #[.slice A ls.length c, .bool cl] 29)).alloc (.cells #[.slice none 0 0, .bool false] 29)) w.heap.size 29 #[.slice A ls.length c, .bool cl] := (Blk.new w 29 #[.slice A ls.length c, .bool cl]).below ((Below.refl _ _).alloc (Nat.le_refl _) _)
  have x1 : Blk ((w.alloc (.cells #[.slice A ls.length c, .bool cl] 29)).alloc (.cells #[.slice none 0 0, .bool false] 29)) (w.heap.size + 1) 29 #[.slice none 0 0, .bool false] := by
    have := Blk.new (w.alloc (.cells #[.slice A ls.length c, .bool cl] 29)) 29 #[.slice none 0 0, .bool false]
    rwa [show (w.alloc (.cells #[.slice A ls.length c, .bool cl] 29)).heap.size = w.heap.size + 1 by simp] at this
  have HH := Lib.hid h
  have HR := Lib.hid (h.below hw2)
  have l2 := x1.lt
  by_cases hi : i < 0 ∨ (ls.length : Int) ≤ i
  · have e1 : dropI (ls.map PV.s) i = (ls.map PV.s, false) := by unfold dropI; rw [if_neg]; rintro ⟨h1, h2, _⟩; simp at h2; omega
    rw [e1]
    clear h e1
    by_cases h0 : i < 0
    · clear hi
      go_enter Try.func17, Try.ntmps17
      go_upto_region 1 with (fail)
      generalize ((w.alloc (.cells #[.slice A ls.length c, .bool cl] 29)).alloc (.cells #[.slice none 0 0, .bool false] 29)) = w2 at *
      have q0 := x0.cell 0
      have q1 := x0.cell 1
      simp only [List.getElem?_toArray, List.getElem?_cons_zero, List.getElem?_cons_succ] at q0 q1
      have r0 := x1.cell 0
      have r1 := x1.cell 1
      simp only [List.getElem?_toArray, List.getElem?_cons_zero, List.getElem?_cons_succ] at r0 r1
      have fr := fun o => x1.frozen o
      go_wp2_with fail
      have kR : Fr (fun x => x = w.heap.size + 1) w2 ((w2.setCell ⟨w.heap.size + 1, 0, none⟩ (.slice A ls.length c)).setCell ⟨w.heap.size + 1, 1, none⟩ (.bool cl)) := (((Fr.refl (fun x => x = w.heap.size + 1) w2).setAt (w.heap.size + 1) _ rfl _).setAt (w.heap.size + 1) _ rfl _)
      have yR := ((x1.set_ 0 (.slice A ls.length c)).set_ 1 (.bool cl))
      simp only [List.setIfInBounds_toArray, List.set_cons_zero, List.set_cons_succ] at yR
      have hwR : Below w.heap.size w ((w2.setCell ⟨w.heap.size + 1, 0, none⟩ (.slice A ls.length c)).setCell ⟨w.heap.size + 1, 1, none⟩ (.bool cl)) := hw2.trans (kR.below (B := w.heap.size) hw2.size (fun k hk e => by omega))
      generalize ((w2.setCell ⟨w.heap.size + 1, 0, none⟩ (.slice A ls.length c)).setCell ⟨w.heap.size + 1, 1, none⟩ (.bool cl)) = wR at *
      have s0 := yR.cell 0
      have s1 := yR.cell 1
      simp only [List.getElem?_toArray, List.getElem?_cons_zero, List.getElem?_cons_succ] at s0 s1
      refine bodyPost_ret (v := .tuple #[.agg #[.slice A ls.length c, .bool cl], .bool false]) (by simp [results, Try.results17, go_sem, s0, s1]) rfl ?_
      exact ⟨A, c, ls, rfl, HH.out.below hwR, Lib.hid rfl, hwR⟩
    · have h1 : (ls.length : Int) ≤ i := by omega
      clear hi
      go_enter Try.func17, Try.ntmps17
      go_upto_region 1 with (fail)
      generalize ((w.alloc (.cells #[.slice A ls.length c, .bool cl] 29)).alloc (.cells #[.slice none 0 0, .bool false] 29)) = w2 at *
      have q0 := x0.cell 0
      have q1 := x0.cell 1
      simp only [List.getElem?_toArray, List.getElem?_cons_zero, List.getElem?_cons_succ] at q0 q1
      have r0 := x1.cell 0
      have r1 := x1.cell 1
      simp only [List.getElem?_toArray, List.getElem?_cons_zero, List.getElem?_cons_succ] at r0 r1
      have fr := fun o => x1.frozen o
      go_wp2_with fail
      have kR : Fr (fun x => x = w.heap.size + 1) w2 ((w2.setCell ⟨w.heap.size + 1, 0, none⟩ (.slice A ls.length c)).setCell ⟨w.heap.size + 1, 1, none⟩ (.bool cl)) := (((Fr.refl (fun x => x = w.heap.size + 1) w2).setAt (w.heap.size + 1) _ rfl _).setAt (w.heap.size + 1) _ rfl _)
      have yR := ((x1.set_ 0 (.slice A ls.length c)).set_ 1 (.bool cl))
      simp only [List.setIfInBounds_toArray, List.set_cons_zero, List.set_cons_succ] at yR
      have hwR : Below w.heap.size w ((w2.setCell ⟨w.heap.size + 1, 0, none⟩ (.slice A ls.length c)).setCell ⟨w.heap.size + 1, 1, none⟩ (.bool cl)) := hw2.trans (kR.below (B := w.heap.size) hw2.size (fun k hk e => by omega))
      generalize ((w2.setCell ⟨w.heap.size + 1, 0, none⟩ (.slice A ls.length c)).setCell ⟨w.heap.size + 1, 1, none⟩ (.bool cl)) = wR at *
      have s0 := yR.cell 0
      have s1 := yR.cell 1
      simp only [List.getElem?_toArray, List.getElem?_cons_zero, List.getElem?_cons_succ] at s0 s1
      refine bodyPost_ret (v := .tuple #[.agg #[.slice A ls.length c, .bool cl], .bool false]) (by simp [results, Try.results17, go_sem, s0, s1]) rfl ?_
      exact ⟨A, c, ls, rfl, HH.out.below hwR, Lib.hid rfl, hwR⟩
  · obtain ⟨k, rfl⟩ : ∃ k : Nat, i = k := ⟨i.toNat, by omega⟩
    have hk : k < ls.length := by omega
    have hsd : ((ls.map PV.s).getD k ([], false, false)).2.1 = ls[k].b := by rw [List.getD_eq_getElem?_getD, List.getElem?_map, List.getElem?_eq_getElem hk]; rfl
    obtain ⟨g, off, rfl, _, hgl, _, c1, _⟩ := HR.out.par hk
    have n0 : ¬ (k : Int) < 0 := by omega
    have n1 : ¬ (ls.length : Int) ≤ (k : Int) := by omega
    clear hi h
    cases hb : ls[k].b
    · have e1 : dropI (ls.map PV.s) (k : Int) = ((ls.take k ++ ls.drop (k + 1)).map PV.s, true) := by
        unfold dropI
        rw [Int.toNat_natCast, if_pos ⟨by omega, by simpa using hk, by rw [hsd, hb]⟩, List.map_append, List.map_take, List.map_drop]
      rw [e1]
      obtain ⟨M, hM⟩ : ∃ M, M = ls.take k ++ ls.drop (k + 1) := ⟨_, rfl⟩
      rw [← hM]
      have HM := Lib.hid hM
      have hml : M.length = (ls.take k).length + (ls.drop (k + 1)).length := by rw [hM, List.length_append]
      have HML := Lib.hid hml
      have hll : (ls.take k).length = k := by rw [List.length_take]; omega
      have HLL := Lib.hid hll
      have hdl : (ls.drop (k + 1)).length = ls.length - (k + 1) := List.length_drop
      have HDL := Lib.hid hdl
      rw [hb] at c1
      have HSH := Lib.hid (fun W => par_slice_head (some ⟨g, off, none⟩) ls.length c k (by have := HH.out.room; omega) W (by simp))
      have HST := Lib.hid (fun W => par_slice_tail (some ⟨g, off, none⟩) ls.length c (k + 1) (by omega) W)
      have hwm := IntWalk.i64_in ((k : Int) + 1) ⟨by omega, by omega⟩
      have HR1 := Lib.hid (show Rd ((w.alloc (.cells #[.slice (some ⟨g, off, none⟩) ls.length c, .bool cl] 29)).alloc (.cells #[.slice none 0 0, .bool false] 29)) Z 3 (some ⟨g, off, none⟩) (ls.take k).length ((ls.take k).flatMap PV.cells) from by
        rw [← flat_takeP, hll]
        exact HR.out.rd.take (by omega))
      obtain ⟨A9, hA9⟩ : ∃ A9, A9 = (if c = k + 1 then some ⟨g, off, none⟩ else (some (⟨g, off, none⟩ : Addr)).map (·.add ((k + 1) * 3))) := ⟨_, rfl⟩
      have HR2 := Lib.hid (show Rd ((w.alloc (.cells #[.slice (some ⟨g, off, none⟩) ls.length c, .bool cl] 29)).alloc (.cells #[.slice none 0 0, .bool false] 29)) Z 3 A9 (ls.drop (k + 1)).length ((ls.drop (k + 1)).flatMap PV.cells) from by
        rw [← flat_dropP, hdl, hA9]
        exact HR.out.rd.drop (by omega) HR.out.room)
      rw [← hA9] at HST
      clear hA9 hM hml hll hdl e1 hsd hb
      go_enter Try.func17, Try.ntmps17
      go_upto_region 1 with (fail)
      generalize ((w.alloc (.cells #[.slice (some ⟨g, off, none⟩) ls.length c, .bool cl] 29)).alloc (.cells #[.slice none 0 0, .bool false] 29)) = w2 at *
      have q0 := x0.cell 0
      have q1 := x0.cell 1
      simp only [List.getElem?_toArray, List.getElem?_cons_zero, List.getElem?_cons_succ] at q0 q1
      go_wp2_with fail
      refine wp_region_line (.tell 1 (.tell 2 (.tell 3 (.tell 4 (.tell 6 (.tell 7 (.tell 8 (.tell 9 (.tell 10 (.tell 12 (.tell 13 (.one 0 (.one 5 (.one 11 (.tell 14 .done))))))))))))))) (fun W => Below w2.heap.size w2 W) (by kernel_rfl) (by kernel_rfl) ?_
      refine pl_val (by (simp only [List.getElem?_toArray, List.getElem?_cons_succ, List.getElem?_cons_zero]; rfl)) (by kernel_rfl) ⟨_, (by (intro w' hC; clear hC; (try go_simp); (try with_reducible rfl); done)), _, (by (simp only [Act.put, List.setIfInBounds_toArray, List.set_cons_zero, List.set_cons_succ]; rfl)), ?_⟩
      refine pl_val (by (simp only [List.getElem?_toArray, List.getElem?_cons_succ, List.getElem?_cons_zero]; rfl)) (by kernel_rfl) ⟨_, (by (intro w' hC; have q := (x0.below hC).cell 0; simp only [List.getElem?_toArray, List.getElem?_cons_zero] at q; clear hC; (try go_simp); (try with_reducible rfl); done)), _, (by (simp only [Act.put, List.setIfInBounds_toArray, List.set_cons_zero, List.set_cons_succ]; rfl)), ?_⟩
      refine pl_val (by (simp only [List.getElem?_toArray, List.getElem?_cons_succ, List.getElem?_cons_zero]; rfl)) (by kernel_rfl) ⟨_, (by (intro w' hC; clear hC; (try go_simp); (try with_reducible rfl); done)), _, (by (simp only [Act.put, List.setIfInBounds_toArray, List.set_cons_zero, List.set_cons_succ]; rfl)), ?_⟩
      refine pl_val (by (simp only [List.getElem?_toArray, List.getElem?_cons_succ, List.getElem?_cons_zero]; rfl)) (by kernel_rfl) ⟨_, (by (intro w' hC; have hsl := HSH.out w'; clear hC; (try go_simp); (try with_reducible rfl); done)), _, (by (simp only [Act.put, List.setIfInBounds_toArray, List.set_cons_zero, List.set_cons_succ]; rfl)), ?_⟩
      refine pl_val (by (simp only [List.getElem?_toArray, List.getElem?_cons_succ, List.getElem?_cons_zero]; rfl)) (by kernel_rfl) ⟨_, (by (intro w' hC; clear hC; (try go_simp); (try with_reducible rfl); done)), _, (by (simp only [Act.put, List.setIfInBounds_toArray, List.set_cons_zero, List.set_cons_succ]; rfl)), ?_⟩
      refine pl_val (by (simp only [List.getElem?_toArray, List.getElem?_cons_succ, List.getElem?_cons_zero]; rfl)) (by kernel_rfl) ⟨_, (by (intro w' hC; have q := (x0.below hC).cell 0; simp only [List.getElem?_toArray, List.getElem?_cons_zero] at q; clear hC; (try go_simp); (try with_reducible rfl); done)), _, (by (simp only [Act.put, List.setIfInBounds_toArray, List.set_cons_zero, List.set_cons_succ]; rfl)), ?_⟩
      refine pl_val (by (simp only [List.getElem?_toArray, List.getElem?_cons_succ, List.getElem?_cons_zero]; rfl)) (by kernel_rfl) ⟨_, (by (intro w' hC; clear hC; (try go_simp); (try with_reducible rfl); done)), _, (by (simp only [Act.put, List.setIfInBounds_toArray, List.set_cons_zero, List.set_cons_succ]; rfl)), ?_⟩
      refine pl_val (by (simp only [List.getElem?_toArray, List.getElem?_cons_succ, List.getElem?_cons_zero]; rfl)) (by kernel_rfl) ⟨_, (by (intro w' hC; clear hC; (try go_simp); (try with_reducible rfl); done)), _, (by (simp only [Act.put, List.setIfInBounds_toArray, List.set_cons_zero, List.set_cons_succ]; rfl)), ?_⟩
      refine pl_val (by (simp only [List.getElem?_toArray, List.getElem?_cons_succ, List.getElem?_cons_zero]; rfl)) (by kernel_rfl) ⟨_, (by (intro w' hC; have hsl := HST.out w'; push_cast at hsl; clear hC; (try go_simp); (try with_reducible rfl); done)), _, (by (simp only [Act.put, List.setIfInBounds_toArray, List.set_cons_zero, List.set_cons_succ]; rfl)), ?_⟩
      refine pl_val (by (simp only [List.getElem?_toArray, List.getElem?_cons_succ, List.getElem?_cons_zero]; rfl)) (by kernel_rfl) ⟨_, (by (intro w' hC; clear hC; (try go_simp); (try with_reducible rfl); done)), _, (by (simp only [Act.put, List.setIfInBounds_toArray, List.set_cons_zero, List.set_cons_succ]; rfl)), ?_⟩
      refine pl_val (by (simp only [List.getElem?_toArray, List.getElem?_cons_succ, List.getElem?_cons_zero]; rfl)) (by kernel_rfl) ⟨_, (by (intro w' hC; have q := (x0.below hC).cell 1; simp only [List.getElem?_toArray, List.getElem?_cons_zero, List.getElem?_cons_succ] at q; clear hC; (try go_simp); (try with_reducible rfl); done)), _, (by (simp only [Act.put, List.setIfInBounds_toArray, List.set_cons_zero, List.set_cons_succ]; rfl)), ?_⟩
      have hB : Below w2.heap.size w2 w2.drew := (Below.refl _ _).drew
      generalize w2.drew = wd at *
      refine pl_one (by (simp only [List.getElem?_toArray, List.getElem?_cons_zero]; rfl)) hB ?_
      refine al_val (by kernel_rfl) ⟨_, _, (by (go_simp; first | done | exact ⟨rfl, rfl⟩)), _, (by (simp only [Act.put, List.setIfInBounds_toArray, List.set_cons_zero, List.set_cons_succ]; rfl)), ?_⟩
      have own := ParsR.lit0 wd w2.heap.size hB.size
      have hB1 : Below w2.heap.size w2 (wd.alloc (.cells #[] 62)) := hB.alloc hB.size _
      generalize wd.alloc (.cells #[] 62) = wA at *
      refine pl_one (by (simp only [List.getElem?_toArray, List.getElem?_cons_succ, List.getElem?_cons_zero]; rfl)) hB1 ?_
      refine al_wp (by kernel_rfl) (wp_append_pars (L := []) (N := ls.take k) (.tmp 24) (.tmp 28) rfl rfl own (by rw [HLL.out]; rfl) (HR1.out.below hB1) (by rw [HLL.out]; simp; omega) hB1.size ?_)
      intro A1 c1' wB own1 hb1 _
      have hB2 := hB1.trans hb1
      rw [List.nil_append] at own1
      rw [show ([] : List PV).length + (ls.take k).length = k by rw [HLL.out]; simp]
      simp only [Act.put, List.setIfInBounds_toArray, List.set_cons_zero, List.set_cons_succ]
      clear own hb1 hB hB1
      refine pl_one (by (simp only [List.getElem?_toArray, List.getElem?_cons_succ, List.getElem?_cons_zero]; rfl)) hB2 ?_
      refine al_wp (by kernel_rfl) (wp_append_pars (L := ls.take k) (N := ls.drop (k + 1)) (.tmp 29) (.tmp 34) rfl (by rw [HLL.out]; rfl) own1 (by rw [HDL.out]; rfl) (HR2.out.below hB2) (by rw [HLL.out, HDL.out]; omega) hB2.size ?_)
      intro A2 c2 wC own2 hb2 _
      have hB3 := hB2.trans hb2
      rw [← HML.out]
      rw [← HM.out] at own2
      simp only [Act.put, List.setIfInBounds_toArray, List.set_cons_zero, List.set_cons_succ]
      clear own1 hb2 hB2
      refine pl_val (by (simp only [List.getElem?_toArray, List.getElem?_cons_succ, List.getElem?_cons_zero]; rfl)) (by kernel_rfl) ⟨_, (by (intro w' hC; clear hC; (try go_simp); (try with_reducible rfl); done)), _, (by (simp only [Act.put, List.setIfInBounds_toArray, List.set_cons_zero, List.set_cons_succ]; rfl)), ?_⟩
      refine pl_end hB3 ?_
      simp only [Plan.count, Nat.reduceAdd, List.drop_succ_cons, List.drop_zero]
      replace x1 := x1.below hB3
      have hw3 := hw2.trans (hB3.mono hw2.size)
      have r0 := x1.cell 0
      have r1 := x1.cell 1
      simp only [List.getElem?_toArray, List.getElem?_cons_zero, List.getElem?_cons_succ] at r0 r1
      have fr := fun o => x1.frozen o
      clear HR1 HR2 HSH HST hwm
      go_wp2_with fail
      have kR : Fr (fun x => x = w.heap.size + 1) wC ((wC.setCell ⟨w.heap.size + 1, 0, none⟩ (.slice A2 M.length c2)).setCell ⟨w.heap.size + 1, 1, none⟩ (.bool cl)) := (((Fr.refl (fun x => x = w.heap.size + 1) wC).setAt (w.heap.size + 1) _ rfl _).setAt (w.heap.size + 1) _ rfl _)
      have yR := ((x1.set_ 0 (.slice A2 M.length c2)).set_ 1 (.bool cl))
      simp only [List.setIfInBounds_toArray, List.set_cons_zero, List.set_cons_succ] at yR
      have hwR : Below w.heap.size w ((wC.setCell ⟨w.heap.size + 1, 0, none⟩ (.slice A2 M.length c2)).setCell ⟨w.heap.size + 1, 1, none⟩ (.bool cl)) := hw3.trans (kR.below (B := w.heap.size) hw3.size (fun k hk e => by omega))
      generalize ((wC.setCell ⟨w.heap.size + 1, 0, none⟩ (.slice A2 M.length c2)).setCell ⟨w.heap.size + 1, 1, none⟩ (.bool cl)) = wR at *
      have s0 := yR.cell 0
      have s1 := yR.cell 1
      simp only [List.getElem?_toArray, List.getElem?_cons_zero, List.getElem?_cons_succ] at s0 s1
      refine bodyPost_ret (v := .tuple #[.agg #[.slice A2 M.length c2, .bool cl], .bool true]) (by simp [results, Try.results17, go_sem, s0, s1]) rfl ?_
      refine ⟨A2, c2, M, rfl, RefP.of_row (base := w2.heap.size) (own2.fr kR (fun g hg e => by have := (own2.lt g hg).1; omega)) (fun b hb => hZ b (by omega)) (fun p hp => (HH.out.ok p ?_).below hwR), Lib.hid rfl, hwR⟩
      rw [HM.out] at hp
      rcases List.mem_append.1 hp with hp | hp
      · exact List.mem_of_mem_take hp
      · exact List.mem_of_mem_drop hp
    · have e1 : dropI (ls.map PV.s) (k : Int) = (ls.map PV.s, false) := by
        unfold dropI
        rw [Int.toNat_natCast, if_neg]
        rintro ⟨_, _, h3⟩
        rw [hsd, hb] at h3
        cases h3
      rw [e1]
      rw [hb] at c1
      clear e1 hsd hb
      go_enter Try.func17, Try.ntmps17
      go_upto_region 1 with (fail)
      generalize ((w.alloc (.cells #[.slice (some ⟨g, off, none⟩) ls.length c, .bool cl] 29)).alloc (.cells #[.slice none 0 0, .bool false] 29)) = w2 at *
      have q0 := x0.cell 0
      have q1 := x0.cell 1
      simp only [List.getElem?_toArray, List.getElem?_cons_zero, List.getElem?_cons_succ] at q0 q1
      have r0 := x1.cell 0
      have r1 := x1.cell 1
      simp only [List.getElem?_toArray, List.getElem?_cons_zero, List.getElem?_cons_succ] at r0 r1
      have fr := fun o => x1.frozen o
      go_wp2_with fail
      have kR : Fr (fun x => x = w.heap.size + 1) w2 ((w2.setCell ⟨w.heap.size + 1, 0, none⟩ (.slice (some ⟨g, off, none⟩) ls.length c)).setCell ⟨w.heap.size + 1, 1, none⟩ (.bool cl)) := (((Fr.refl (fun x => x = w.heap.size + 1) w2).setAt (w.heap.size + 1) _ rfl _).setAt (w.heap.size + 1) _ rfl _)
      have yR := ((x1.set_ 0 (.slice (some ⟨g, off, none⟩) ls.length c)).set_ 1 (.bool cl))
      simp only [List.setIfInBounds_toArray, List.set_cons_zero, List.set_cons_succ] at yR
      have hwR : Below w.heap.size w ((w2.setCell ⟨w.heap.size + 1, 0, none⟩ (.slice (some ⟨g, off, none⟩) ls.length c)).setCell ⟨w.heap.size + 1, 1, none⟩ (.bool cl)) := hw2.trans (kR.below (B := w.heap.size) hw2.size (fun k hk e => by omega))
      generalize ((w2.setCell ⟨w.heap.size + 1, 0, none⟩ (.slice (some ⟨g, off, none⟩) ls.length c)).setCell ⟨w.heap.size + 1, 1, none⟩ (.bool cl)) = wR at *
      have s0 := yR.cell 0
      have s1 := yR.cell 1
      simp only [List.getElem?_toArray, List.getElem?_cons_zero, List.getElem?_cons_succ] at s0 s1
      refine bodyPost_ret (v := .tuple #[.agg #[.slice (some ⟨g, off, none⟩) ls.length c, .bool cl], .bool false]) (by simp [results, Try.results17, go_sem, s0, s1]) rfl ?_
      exact ⟨some ⟨g, off, none⟩, c, ls, rfl, HH.out.below hwR, Lib.hid rfl, hwR⟩


set_option maxRecDepth 100000 in
set_option maxHeartbeats 4000000 in
theorem refCut_any (A : Option Addr) (c : Nat) (ls : List PV) (cl : Bool) (n : Int) (Z : Nat → Prop) (w : World) (h : RefP w Z A c ls) (hn : ls.length ≤ 900000) (hni : -9223372036854775808 ≤ n ∧ n < 9223372036854775808) (hpl : ∀ p ∈ ls, p.x.l.length ≤ 1000000) (hZ : ∀ b, w.heap.size ≤ b → Z b) :
    Calls Try.prog 21 #[.agg #[.slice A ls.length c, .bool cl], .int .i64 n] w fun e w' => ∃ (A' : Option Addr) (c' : Nat) (ls' : List PV), e = .returned (.agg #[.slice A' ls'.length c', .bool true]) ∧ RefP w' Z A' c' ls' ∧ Hid (ls'.map PV.s = cutS (ls.map PV.s) n) ∧ Below w.heap.size w w' := by
  have hw2 : Below w.heap.size w ((w.alloc (.cells #[.slice A ls.length c, .bool cl] 29)).alloc (.cells #[.slice none 0 0, .bool false] 29)) := ((Below.refl _ _).alloc (Nat.le_refl _) _).alloc (by simp) _
  have x0 : Blk ((w.alloc (.cells #[.slice A ls.length c, .bool cl] 29)).alloc (.cells #[.slice none 0 0, .bool false] 29)) w.heap.size 29 #[.slice A ls.length c, .bool cl] := (Blk.new w 29 #[.slice A ls.length c, .bool cl]).below ((Below.refl _ _).alloc (Nat.le_refl _) _)
  have x1 : Blk ((w.alloc (.cells #[.slice A ls.length c, .bool cl] 29)).alloc (.cells #[.slice none 0 0, .bool false] 29)) (w.heap.size + 1) 29 #[.slice none 0 0, .bool false] := by
    have := Blk.new (w.alloc (.cells #[.slice A ls.length c, .bool cl] 29)) 29 #[.slice none 0 0, .bool false]
    rwa [show (w.alloc (.cells #[.slice A ls.length c, .bool cl] 29)).heap.size = w.heap.size + 1 by simp] at this
  have HH := Lib.hid h
  obtain ⟨qb, hqb⟩ : ∃ qb, qb = ((w.alloc (.cells #[.slice A ls.length c, .bool cl] 29)).alloc (.cells #[.slice none 0 0, .bool false] 29)).heap.size := ⟨_, rfl⟩
  have l2 := x1.lt
  rw [← hqb] at l2
  have hba : Below ((w.alloc (.cells #[.slice A ls.length c, .bool cl] 29)).alloc (.cells #[.slice none 0 0, .bool false] 29)).heap.size ((w.alloc (.cells #[.slice A ls.length c, .bool cl] 29)).alloc (.cells #[.slice none 0 0, .bool false] 29)) (((w.alloc (.cells #[.slice A ls.length c, .bool cl] 29)).alloc (.cells #[.slice none 0 0, .bool false] 29)).alloc (.cells #[.slice none 0 0, .bool true] 29)) := (Below.refl _ _).alloc (Nat.le_refl _) _
  have yq0 : Blk (((w.alloc (.cells #[.slice A ls.length c, .bool cl] 29)).alloc (.cells #[.slice none 0 0, .bool false] 29)).alloc (.cells #[.slice none 0 0, .bool true] 29)) ((w.alloc (.cells #[.slice A ls.length c, .bool cl] 29)).alloc (.cells #[.slice none 0 0, .bool false] 29)).heap.size 29 #[.slice none 0 0, .bool true] := Blk.new ((w.alloc (.cells #[.slice A ls.length c, .bool cl] 29)).alloc (.cells #[.slice none 0 0, .bool false] 29)) 29 _
  rw [← hqb] at yq0
  replace x0 := x0.below hba
  replace x1 := x1.below hba
  have hw3 := hw2.trans (hba.mono hw2.size)
  have HPL := Lib.hid hpl
  clear h hba hpl
  go_enter Try.func21, Try.ntmps21
  go_upto_region 2 with (fail)
  have hq2 : qb = w.heap.size + 1 + 1 := by rw [hqb]; simp
  first | rw [← hq2] | skip
  generalize (((w.alloc (.cells #[.slice A ls.length c, .bool cl] 29)).alloc (.cells #[.slice none 0 0, .bool false] 29)).alloc (.cells #[.slice none 0 0, .bool true] 29)) = w3 at *
  have l3 := yq0.lt
  clear hqb hw2 hq2
  go_wp2_with fail
  go_loopw [1, 6] (fun nv iv wr => ∃ (i : Nat) (m : Int) (M : List PV) (A2 : Option Addr) (c2 : Nat), i ≤ ls.length ∧ iv = .int .i64 (i : Int) ∧ nv = .int .i64 m ∧ Blk wr qb 29 #[.slice A2 M.length c2, .bool true] ∧ ParsR wr w3.heap.size A2 c2 M ∧ Fr (fun b => b = qb) w3 wr ∧ (∀ p ∈ M, p.x.ok w Z) ∧ Hid (M.map PV.s ++ cutS ((ls.map PV.s).drop i) m = cutS (ls.map PV.s) n) ∧ M.length ≤ i ∧ (-9223372036854775808 ≤ m ∧ m < 9223372036854775808)) (fun _ iv _ => ls.length - (intOf iv).toNat)
  case atStart => exact ⟨0, n, [], none, 0, Nat.zero_le _, rfl, rfl, yq0, Row.none_ _ _ _ _, Fr.refl _ _, by simp, Lib.hid (by simp), Nat.le_refl _, hni⟩
  case round =>
    obtain ⟨i, m, M, A2, c2, hi, rfl, rfl, yq, hrow, hf, hok, hC, hMl, hm1, hm2⟩ := hrel
    have hwr : Below w.heap.size w wr := hw3.trans (hf.below (B := w.heap.size) hw3.size (fun k hk e => by omega))
    have x0r := x0.fr hf (by omega)
    have u1r := x1.fr hf (by omega)
    have q0 := x0r.cell 0
    have q1 := x0r.cell 1
    simp only [List.getElem?_toArray, List.getElem?_cons_zero, List.getElem?_cons_succ] at q0 q1
    by_cases hlt : i < ls.length
    · obtain ⟨g, off, hA, _, hgl, c0, c1, c2'⟩ := (HH.out.below hwr).par hlt
      have hpo := HH.out.ok _ (List.getElem_mem hlt)
      have hpl := HPL.out _ (List.getElem_mem hlt)
      have hdr : (ls.map PV.s).drop i = ls[i].s :: (ls.map PV.s).drop (i + 1) := by rw [List.drop_eq_getElem_cons (by simpa using hlt), List.getElem_map]
      rw [hdr] at hC
      subst hA
      clear hdr
      generalize ls[i] = p at *
      obtain ⟨⟨pA, pc, pl⟩, pb1, pd⟩ := p
      dsimp only at *
      by_cases hm0 : m ≤ 0
      · have HE : Hid (M.map PV.s = cutS (ls.map PV.s) n) := Lib.hid (by rw [← hC.out, cutS_zero _ hm0, List.append_nil])
        have hwa : Below wr.heap.size wr (wr.alloc (.cells #[.slice pA pl.length pc, .bool pb1, .bool pd] 62)) := (Below.refl _ _).alloc (Nat.le_refl _) _
        have hwra := hwr.trans (hwa.mono hwr.size)
        replace yq := yq.below hwa
        replace u1r := u1r.below hwa
        have hrowa := hrow.below hwa
        have XA := Blk.new wr 62 #[.slice pA pl.length pc, .bool pb1, .bool pd]
        have o0 := yq.cell 0
        have o1 := yq.cell 1
        simp only [List.getElem?_toArray, List.getElem?_cons_zero, List.getElem?_cons_succ] at o0 o1
        have r0 := u1r.cell 0
        have r1 := u1r.cell 1
        simp only [List.getElem?_toArray, List.getElem?_cons_zero, List.getElem?_cons_succ] at r0 r1
        have fr := fun o => u1r.frozen o
        clear hC
        go_wp2_with fail
        clear XA
        have kR : Fr (fun x => x = w.heap.size + 1) (wr.alloc (.cells #[.slice pA pl.length pc, .bool pb1, .bool pd] 62)) (((wr.alloc (.cells #[.slice pA pl.length pc, .bool pb1, .bool pd] 62)).setCell ⟨w.heap.size + 1, 0, none⟩ (.slice A2 M.length c2)).setCell ⟨w.heap.size + 1, 1, none⟩ (.bool true)) := (((Fr.refl (fun x => x = w.heap.size + 1) (wr.alloc (.cells #[.slice pA pl.length pc, .bool pb1, .bool pd] 62))).setAt (w.heap.size + 1) _ rfl _).setAt (w.heap.size + 1) _ rfl _)
        have yR := ((u1r.set_ 0 (.slice A2 M.length c2)).set_ 1 (.bool true))
        simp only [List.setIfInBounds_toArray, List.set_cons_zero, List.set_cons_succ] at yR
        have hwR : Below w.heap.size w (((wr.alloc (.cells #[.slice pA pl.length pc, .bool pb1, .bool pd] 62)).setCell ⟨w.heap.size + 1, 0, none⟩ (.slice A2 M.length c2)).setCell ⟨w.heap.size + 1, 1, none⟩ (.bool true)) := hwra.trans (kR.below (B := w.heap.size) hwra.size (fun k hk e => by omega))
        generalize (((wr.alloc (.cells #[.slice pA pl.length pc, .bool pb1, .bool pd] 62)).setCell ⟨w.heap.size + 1, 0, none⟩ (.slice A2 M.length c2)).setCell ⟨w.heap.size + 1, 1, none⟩ (.bool true)) = wR at *
        have s0 := yR.cell 0
        have s1 := yR.cell 1
        simp only [List.getElem?_toArray, List.getElem?_cons_zero, List.getElem?_cons_succ] at s0 s1
        refine bodyPost_ret (v := .agg #[.slice A2 M.length c2, .bool true]) (by simp [results, Try.results21, go_sem, s0, s1]) rfl ?_
        exact ⟨A2, c2, M, rfl, RefP.of_row (base := w3.heap.size) (hrowa.fr kR (fun g hg e => by have := (hrowa.lt g hg).1; omega)) (fun b hb => hZ b (by omega)) (fun p hp => (hok p hp).below hwR), HE, hwR⟩
      · by_cases hmk : m < (pl.length : Int)
        · obtain ⟨k, rfl⟩ : ∃ k : Nat, m = (k : Int) := ⟨m.toNat, by omega⟩
          obtain ⟨bx, ox, hpA, _, _⟩ := hpo.1.some_of (by show 0 < pl.length * 1; omega)
          dsimp only at hpA
          subst hpA
          have htl : (pl.take k).length = k := by rw [List.length_take]; omega
          obtain ⟨px, hpx⟩ : ∃ px : PV, px = ⟨⟨some ⟨bx, ox, none⟩, pc, pl.take k⟩, pb1, pd⟩ := ⟨_, rfl⟩
          have HPX : Hid (([px] : List PV).flatMap PV.cells = [.slice (some ⟨bx, ox, none⟩) k pc, .bool pb1, .bool pd]) := Lib.hid (by rw [hpx]; simp [PV.cells, htl])
          have HPO : Hid (px.x.ok w Z) := Lib.hid (by
            rw [hpx]
            have hpc : pl.length ≤ pc := hpo.2.1
            refine ⟨?_, by show (pl.take k).length ≤ pc; omega, hpo.2.2⟩
            show Rd w Z 1 _ (pl.take k).length ((pl.take k).map bv)
            have := hpo.1.take (k := k) (by show k ≤ pl.length; omega)
            rw [htl, List.map_take]
            rw [Nat.mul_one] at this
            exact this)
          have HC2 : Hid ((M ++ [px]).map PV.s ++ cutS ((ls.map PV.s).drop (i + 1)) 0 = cutS (ls.map PV.s) n) := Lib.hid (by
            rw [← hC.out, cutS_zero _ (Int.le_refl 0), List.append_nil, List.map_append, hpx]
            show _ ++ [(pl.take k, pb1, pd)] = _ ++ cutS ((pl, pb1, pd) :: _) (k : Int)
            rw [cutS, if_neg hm0, if_pos hmk, Int.toNat_natCast])
          have hk0 : (0 : Int) ≤ (k : Int) := by omega
          have hkc : (k : Int) ≤ (pc : Int) := by have := hpo.2.1; dsimp only at this; omega
          have hgt : decide ((k : Int) < (pl.length : Int)) = true := decide_eq_true hmk
          have hw0 : IntKind.i64.wrap ((k : Int) - (k : Int)) = 0 := by rw [Int.sub_self]; rfl
          clear hC hpx htl hm1 hm2
          have hwa : Below wr.heap.size wr ((wr.alloc (.cells #[.slice (some ⟨bx, ox, none⟩) k pc, .bool pb1, .bool pd] 62)).alloc (.cells #[.slice (some ⟨bx, ox, none⟩) k pc, .bool pb1, .bool pd] 62)) := ((Below.refl _ _).alloc (Nat.le_refl _) _).alloc (by simp) _
          have XA := Blk.new wr 62 #[.slice (some ⟨bx, ox, none⟩) k pc, .bool pb1, .bool pd]
          have xa0 := XA.cell 0
          have xa1 := XA.cell 1
          have xa2 := XA.cell 2
          have xf := XA.frozen 0
          simp only [List.getElem?_toArray, List.getElem?_cons_zero, List.getElem?_cons_succ] at xa0 xa1 xa2
          have ROW := Lib.hid (hrow.below hwa)
          have yqa := yq.below hwa
          have u1a := u1r.below hwa
          have hsa := hwa.size
          have HRL : Hid (Rd ((wr.alloc (.cells #[.slice (some ⟨bx, ox, none⟩) k pc, .bool pb1, .bool pd] 62)).alloc (.cells #[.slice (some ⟨bx, ox, none⟩) k pc, .bool pb1, .bool pd] 62)) (fun _ => True) 3 (some ⟨wr.heap.size + 1, 0, none⟩) ([px] : List PV).length (([px] : List PV).flatMap PV.cells)) := Lib.hid (by
            rw [HPX.out]
            exact (Rd.lit (w := (wr.alloc (.cells #[.slice (some ⟨bx, ox, none⟩) k pc, .bool pb1, .bool pd] 62))) (t := 62) (cs := #[.slice (some ⟨bx, ox, none⟩) k pc, .bool pb1, .bool pd]) (size := 3) (xs := [.slice (some ⟨bx, ox, none⟩) k pc, .bool pb1, .bool pd]) (n := 1) (b := wr.heap.size + 1) rfl rfl (by simp)).mono (fun _ _ _ => trivial))
          have hsr := hf.size
          have p0 := yq.cell 0
          have hql := yq.lt
          simp only [List.getElem?_toArray, List.getElem?_cons_zero] at p0

          go_upto_region 4 with (at_builtin; refine wpList_append_pars (L := M) (N := [px]) rfl (.tmp 40) (.tmp 42) rfl rfl ROW.out rfl HRL.out (by simp; omega) (by simp; omega) ?_; intro A5 c5 w5 row5 hb5 hg5; have yq5 := yqa.grown hg5 (ROW.out.ne_blk yqa (by decide)); have u15 := u1a.grown hg5 (ROW.out.ne_blk u1a (by decide)); have o0 := yq5.cell 0; have of_ := yq5.frozen 0; simp only [List.getElem?_toArray, List.getElem?_cons_zero] at o0)
          have k6 : Fr (fun x => x = qb) w5 (w5.setCell ⟨qb, 0, none⟩ (.slice A5 (M.length + 1) c5)) := (Fr.refl (fun x => x = qb) w5).setAt qb 0 rfl _
          have ne5 := row5.ne_blk yq5 (by decide)
          have row6 := row5.fr k6 (fun g hg e => ne5 (by rw [hg, e]))
          have yq6 := yq5.set_ 0 (.slice A5 (M.length + 1) c5)
          simp only [List.setIfInBounds_toArray, List.set_cons_zero] at yq6
          have f6 : Fr (fun b => b = qb) w3 (w5.setCell ⟨qb, 0, none⟩ (.slice A5 (M.length + 1) c5)) := ((hf.then_below hwa).trans (Fr.of_belowB hb5) (fun x hx e => by omega)).trans k6 (fun _ _ h => h)
          generalize (w5.setCell ⟨qb, 0, none⟩ (.slice A5 (M.length + 1) c5)) = w6 at *
          clear p0 xa0 xa1 xa2 xf XA ROW HRL yqa u1a hwa o0 of_ yq5 u15 hb5 hg5 row5 k6 ne5
          go_wp2_with fail
          go_roundw
          case rel =>
            refine ⟨i + 1, 0, M ++ [px], A5, c5, hlt, by go_num, by first | rfl | simp, by rw [List.length_append]; exact yq6, row6, f6, ?_, HC2, by rw [List.length_append, List.length_singleton]; omega, by omega⟩
            intro y hy
            rcases List.mem_append.1 hy with hy | hy
            · exact hok y hy
            · rw [List.mem_singleton.1 hy]; exact HPO.out
          case measure => simp [intOf]; omega
        · obtain ⟨m2, hm2'⟩ : ∃ m2, m2 = m - (pl.length : Int) := ⟨_, rfl⟩
          have hws : IntKind.i64.wrap (m - (pl.length : Int)) = m2 := by rw [IntWalk.i64_in _ (by omega), hm2']
          obtain ⟨px, hpx⟩ : ∃ px : PV, px = ⟨⟨pA, pc, pl⟩, pb1, pd⟩ := ⟨_, rfl⟩
          have HPX : Hid (([px] : List PV).flatMap PV.cells = [.slice pA pl.length pc, .bool pb1, .bool pd]) := Lib.hid (by rw [hpx]; simp [PV.cells])
          have HPO : Hid (px.x.ok w Z) := Lib.hid (by rw [hpx]; exact hpo)
          have HC2 : Hid ((M ++ [px]).map PV.s ++ cutS ((ls.map PV.s).drop (i + 1)) m2 = cutS (ls.map PV.s) n) := Lib.hid (by
            rw [← hC.out, List.map_append, hpx, List.append_assoc]
            show _ ++ ((pl, pb1, pd) :: _) = _ ++ cutS ((pl, pb1, pd) :: _) m
            rw [cutS, if_neg hm0, if_neg hmk, hm2']
            rfl)
          have hgt : decide (m < (pl.length : Int)) = false := decide_eq_false hmk
          have hm3 : -9223372036854775808 ≤ m2 ∧ m2 < 9223372036854775808 := by omega
          clear hC hpx hm2'
          have hwa : Below wr.heap.size wr ((wr.alloc (.cells #[.slice pA pl.length pc, .bool pb1, .bool pd] 62)).alloc (.cells #[.slice pA pl.length pc, .bool pb1, .bool pd] 62)) := ((Below.refl _ _).alloc (Nat.le_refl _) _).alloc (by simp) _
          have XA := Blk.new wr 62 #[.slice pA pl.length pc, .bool pb1, .bool pd]
          have xa0 := XA.cell 0
          have xa1 := XA.cell 1
          have xa2 := XA.cell 2
          have xf := XA.frozen 0
          simp only [List.getElem?_toArray, List.getElem?_cons_zero, List.getElem?_cons_succ] at xa0 xa1 xa2
          have ROW := Lib.hid (hrow.below hwa)
          have yqa := yq.below hwa
          have u1a := u1r.below hwa
          have hsa := hwa.size
          have HRL : Hid (Rd ((wr.alloc (.cells #[.slice pA pl.length pc, .bool pb1, .bool pd] 62)).alloc (.cells #[.slice pA pl.length pc, .bool pb1, .bool pd] 62)) (fun _ => True) 3 (some ⟨wr.heap.size + 1, 0, none⟩) ([px] : List PV).length (([px] : List PV).flatMap PV.cells)) := Lib.hid (by
            rw [HPX.out]
            exact (Rd.lit (w := (wr.alloc (.cells #[.slice pA pl.length pc, .bool pb1, .bool pd] 62))) (t := 62) (cs := #[.slice pA pl.length pc, .bool pb1, .bool pd]) (size := 3) (xs := [.slice pA pl.length pc, .bool pb1, .bool pd]) (n := 1) (b := wr.heap.size + 1) rfl rfl (by simp)).mono (fun _ _ _ => trivial))
          have hsr := hf.size
          have p0 := yq.cell 0
          have hql := yq.lt
          simp only [List.getElem?_toArray, List.getElem?_cons_zero] at p0

          go_upto_region 4 with (at_builtin; refine wpList_append_pars (L := M) (N := [px]) rfl (.tmp 40) (.tmp 42) rfl rfl ROW.out rfl HRL.out (by simp; omega) (by simp; omega) ?_; intro A5 c5 w5 row5 hb5 hg5; have yq5 := yqa.grown hg5 (ROW.out.ne_blk yqa (by decide)); have u15 := u1a.grown hg5 (ROW.out.ne_blk u1a (by decide)); have o0 := yq5.cell 0; have of_ := yq5.frozen 0; simp only [List.getElem?_toArray, List.getElem?_cons_zero] at o0)
          have k6 : Fr (fun x => x = qb) w5 (w5.setCell ⟨qb, 0, none⟩ (.slice A5 (M.length + 1) c5)) := (Fr.refl (fun x => x = qb) w5).setAt qb 0 rfl _
          have ne5 := row5.ne_blk yq5 (by decide)
          have row6 := row5.fr k6 (fun g hg e => ne5 (by rw [hg, e]))
          have yq6 := yq5.set_ 0 (.slice A5 (M.length + 1) c5)
          simp only [List.setIfInBounds_toArray, List.set_cons_zero] at yq6
          have f6 : Fr (fun b => b = qb) w3 (w5.setCell ⟨qb, 0, none⟩ (.slice A5 (M.length + 1) c5)) := ((hf.then_below hwa).trans (Fr.of_belowB hb5) (fun x hx e => by omega)).trans k6 (fun _ _ h => h)
          generalize (w5.setCell ⟨qb, 0, none⟩ (.slice A5 (M.length + 1) c5)) = w6 at *
          clear p0 xa0 xa1 xa2 xf XA ROW HRL yqa u1a hwa o0 of_ yq5 u15 hb5 hg5 row5 k6 ne5
          go_wp2_with fail
          go_roundw
          case rel =>
            refine ⟨i + 1, m2, M ++ [px], A5, c5, hlt, by go_num, by first | rfl | simp, by rw [List.length_append]; exact yq6, row6, f6, ?_, HC2, by rw [List.length_append, List.length_singleton]; omega, by omega⟩
            intro y hy
            rcases List.mem_append.1 hy with hy | hy
            · exact hok y hy
            · rw [List.mem_singleton.1 hy]; exact HPO.out
          case measure => simp [intOf]; omega
    · have e : i = ls.length := by omega
      have HE : Hid (M.map PV.s = cutS (ls.map PV.s) n) := Lib.hid (by rw [← hC.out, e, List.drop_of_length_le (by simp), cutS, List.append_nil])
      have o0 := yq.cell 0
      have o1 := yq.cell 1
      simp only [List.getElem?_toArray, List.getElem?_cons_zero, List.getElem?_cons_succ] at o0 o1
      have r0 := u1r.cell 0
      have r1 := u1r.cell 1
      simp only [List.getElem?_toArray, List.getElem?_cons_zero, List.getElem?_cons_succ] at r0 r1
      have fr := fun o => u1r.frozen o
      clear hC e
      go_wp2_with fail
      have kR : Fr (fun x => x = w.heap.size + 1) wr ((wr.setCell ⟨w.heap.size + 1, 0, none⟩ (.slice A2 M.length c2)).setCell ⟨w.heap.size + 1, 1, none⟩ (.bool true)) := (((Fr.refl (fun x => x = w.heap.size + 1) wr).setAt (w.heap.size + 1) _ rfl _).setAt (w.heap.size + 1) _ rfl _)
      have yR := ((u1r.set_ 0 (.slice A2 M.length c2)).set_ 1 (.bool true))
      simp only [List.setIfInBounds_toArray, List.set_cons_zero, List.set_cons_succ] at yR
      have hwR : Below w.heap.size w ((wr.setCell ⟨w.heap.size + 1, 0, none⟩ (.slice A2 M.length c2)).setCell ⟨w.heap.size + 1, 1, none⟩ (.bool true)) := hwr.trans (kR.below (B := w.heap.size) hwr.size (fun k hk e => by omega))
      generalize ((wr.setCell ⟨w.heap.size + 1, 0, none⟩ (.slice A2 M.length c2)).setCell ⟨w.heap.size + 1, 1, none⟩ (.bool true)) = wR at *
      have s0 := yR.cell 0
      have s1 := yR.cell 1
      simp only [List.getElem?_toArray, List.getElem?_cons_zero, List.getElem?_cons_succ] at s0 s1
      refine bodyPost_ret (v := .agg #[.slice A2 M.length c2, .bool true]) (by simp [results, Try.results21, go_sem, s0, s1]) rfl ?_
      exact ⟨A2, c2, M, rfl, RefP.of_row (base := w3.heap.size) (hrow.fr kR (fun g hg e => by have := (hrow.lt g hg).1; omega)) (fun b hb => hZ b (by omega)) (fun p hp => (hok p hp).below hwR), HE, hwR⟩

end Go.Proofs.Yticfjnjeoikalaa
