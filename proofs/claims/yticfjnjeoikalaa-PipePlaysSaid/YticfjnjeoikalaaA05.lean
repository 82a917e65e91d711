/- tenderref16: Take. -/
import Derived.Test.YticfjnjeoikalaaA04
import Derived.IntWalk
import Derived.Lib.BitFns

namespace Go.Proofs.Yticfjnjeoikalaa
open Go.RowKit

theorem by_slice_tail (A : Option Addr) (n c : Nat) (W : World) : (Instr.slice 31 (.slice A (n + 1) c) (some (.int .i64 1)) none none).run Try.prog W = .ok (.slice (if c = 1 then A else A.map (·.add (1 * 1))) n (c - 1)) W := by
  have := run_slice_l (P := Try.prog) W 31 A (n + 1) c (by kernel_rfl) .i64 1 (by omega) (by omega)
  rw [this]
  rw [show (sizeOf (Try.prog.elem 31)).run Try.prog W = .ok 1 W by kernel_rfl]
  simp only [Result.andThen, sliced, Int.toNat_one, Nat.add_sub_cancel]
/-- what the rounds keep -/
structure TkR (w w4 : World) (Z : Nat → Prop) (base qb : Nat) (A3 : Option Addr) (S : List PP) (cl : Bool) (n : Nat) (ov : Value) (wr : World) : Prop where
  at_ : ∃ (L : List UInt8) (A2 : Option Addr) (c2 : Nat) (M : List PV) (Aq : Option Addr) (cq : Nat), ov = .slice A2 L.length c2 ∧ OwB wr w4.heap.size (.slice A2 L.length c2) L ∧ Blk wr qb 29 #[.slice Aq M.length cq, .bool cl] ∧ ParsR wr base Aq cq M ∧
    (∀ p ∈ M, p.x.ok w Z) ∧ (∀ p ∈ M, 0 < p.x.l.length) ∧ (∀ g, ablk Aq = some g → ablk A3 = some g) ∧ L.length ≤ n ∧ Hid (L ++ (flatP (M.map PV.s)).take (n - L.length) = (flatP S).take n) ∧ Hid (dropS (M.map PV.s) (n - L.length) = dropS S n)
  fr : Fr (fun b => b = qb ∨ ablk A3 = some b) w4 wr

set_option maxRecDepth 100000 in
set_option maxHeartbeats 4000000 in
theorem refTake_any (A : Option Addr) (c : Nat) (ls : List PV) (cl : Bool) (n : Int) (Z : Nat → Prop) (w : World) (h : RefP w Z A c ls) (hn : ls.length ≤ 900000) (hni : -9223372036854775808 ≤ n ∧ n < 9223372036854775808) (hfl : ∀ p ∈ ls, 0 < p.x.l.length) (hb : (flatP (ls.map PV.s)).length ≤ 1000000) (hZ : ∀ b, w.heap.size ≤ b → Z b) :
    Calls Try.prog 15 #[.agg #[.slice A ls.length c, .bool cl], .int .i64 n] w fun e w' => ∃ (A' : Option Addr) (c' : Nat) (ls' : List PV) (B : Option Addr) (d : Nat) (l' : List UInt8), e = .returned (.tuple #[.agg #[.slice A' ls'.length c', .bool cl], .slice B l'.length d]) ∧ RefP w' Z A' c' ls' ∧ Hid (ls'.map PV.s = dropS (ls.map PV.s) n.toNat) ∧ Hid (l' = (flatP (ls.map PV.s)).take n.toNat) ∧ OwB w' w.heap.size (.slice B l'.length d) l' ∧ Below w.heap.size w w' := by
  have hw2 : Below w.heap.size w ((w.alloc (.cells #[.slice A ls.length c, .bool cl] 29)).alloc (.cells #[.slice none 0 0, .bool false] 29)) := ((Below.refl _ _).alloc (Nat.le_refl _) _).alloc (by simp) _
  have x0 : Blk ((w.alloc (.cells #[.slice A ls.length c, .bool cl] 29)).alloc (.cells #[.slice none 0 0, .bool false] 29)) w.heap.size 29 #[.slice A ls.length c, .bool cl] := (Blk.new w 29 #[.slice A ls.length c, .bool cl]).below ((Below.refl _ _).alloc (Nat.le_refl _) _)
  have x1 : Blk ((w.alloc (.cells #[.slice A ls.length c, .bool cl] 29)).alloc (.cells #[.slice none 0 0, .bool false] 29)) (w.heap.size + 1) 29 #[.slice none 0 0, .bool false] := by
    have := Blk.new (w.alloc (.cells #[.slice A ls.length c, .bool cl] 29)) 29 #[.slice none 0 0, .bool false]
    rwa [show (w.alloc (.cells #[.slice A ls.length c, .bool cl] 29)).heap.size = w.heap.size + 1 by simp] at this
  have HH := Lib.hid h
  have HC := Lib.hid (copied_any A c ls cl Z _ (h.below hw2) (by omega))
  obtain ⟨S, hS⟩ : ∃ S, S = ls.map PV.s := ⟨_, rfl⟩
  rw [← hS] at hb ⊢
  have HS := Lib.hid hS
  have HFL := Lib.hid hfl
  have lx1 := x1.lt
  clear h hS hfl
  go_enter Try.func15, Try.ntmps15
  go_upto_region 1 with (fail)
  generalize ((w.alloc (.cells #[.slice A ls.length c, .bool cl] 29)).alloc (.cells #[.slice none 0 0, .bool false] 29)) = w2 at *
  have q0 := x0.cell 0
  have q1 := x0.cell 1
  simp only [List.getElem?_toArray, List.getElem?_cons_zero, List.getElem?_cons_succ] at q0 q1
  go_wp2_with fail
  refine HC.out.mono ?_
  rintro e w3 ⟨A3, c3, rfl, row3, hb3⟩
  have hw3 := hw2.trans (hb3.mono hw2.size)
  have hba : Below w3.heap.size w3 (w3.alloc (.cells #[.slice A3 ls.length c3, .bool cl] 29)) := (Below.refl _ _).alloc (Nat.le_refl _) _
  have yq : Blk (w3.alloc (.cells #[.slice A3 ls.length c3, .bool cl] 29)) w3.heap.size 29 #[.slice A3 ls.length c3, .bool cl] := Blk.new w3 29 _
  have u1 := (x1.below hb3).below hba
  have row4 := row3.below hba
  have hw4 := hw3.trans (hba.mono hw3.size)
  obtain ⟨qb, hqb⟩ : ∃ qb, qb = w3.heap.size := ⟨_, rfl⟩
  rw [← hqb] at yq
  have l23 := hb3.size
  go_upto_region 2 with (fail)
  rw [← hqb]
  generalize (w3.alloc (.cells #[.slice A3 ls.length c3, .bool cl] 29)) = w4 at *
  have hq23 : w2.heap.size ≤ qb := by omega
  have z4 := yq.lt
  clear hqb HC q0 q1 x0 x1 hb3 hba row3 hw3 l23
  have hlt4 := row4.lt
  have hwf : ∀ wr, Fr (fun b => b = qb ∨ ablk A3 = some b) w4 wr → Below w.heap.size w wr := fun wr hf => hw4.trans (hf.below (B := w.heap.size) hw4.size (fun k hk e => by
    rcases e with rfl | e
    · omega
    · have := (hlt4 k e).1; omega))
  have HWF := Lib.hid hwf
  clear hwf
  go_wp2_with fail
  go_loopw [7] (fun ov wr => TkR w w4 Z w2.heap.size qb A3 S cl n.toNat ov wr) (fun ov _ => n.toNat - lenOf ov)
  case atStart => exact ⟨⟨[], none, 0, ls, A3, c3, rfl, OwB.nil _ _, yq, row4, HH.out.ok, HFL.out, fun _ h => h, Nat.zero_le _, Lib.hid (by rw [HS.out]; simp), Lib.hid (by rw [HS.out]; simp)⟩, Fr.refl _ _⟩
  case round =>
    obtain ⟨⟨L, A2, c2, M, Aq, cq, rfl, hown, bq, row, hok, hfull, hAq, hLn, hF, hD⟩, hfr⟩ := hrel
    have hwr := HWF.out wr hfr
    have hsz := hfr.size
    have hq0 := bq.cell 0
    have hq1 := bq.cell 1
    simp only [List.getElem?_toArray, List.getElem?_cons_zero, List.getElem?_cons_succ] at hq0 hq1
    have hql := bq.lt
    by_cases hgo : (L.length : Int) < n ∧ 0 < M.length
    · obtain ⟨hlt, hlm⟩ := hgo
      rcases M with _ | ⟨p, M⟩
      · simp at hlm
      obtain ⟨g, off, rfl, hgb, hgl⟩ := row.addr (by simp)
      obtain ⟨⟨pA, pc, pl⟩, pb1, pd⟩ := p
      have hxo := hok _ List.mem_cons_self
      have hxf := hfull _ List.mem_cons_self
      dsimp only at hxo hxf
      rcases pl with _ | ⟨x, xs⟩
      · simp at hxf
      obtain ⟨m, hm⟩ : ∃ m : Nat, n.toNat = L.length + (m + 1) := ⟨n.toNat - L.length - 1, by omega⟩
      have hxy := (hxo.below hwr).1
      obtain ⟨bx, ox, hpA, _, hbx, cx⟩ := Rd.atm (k := 0) hxy (by simp)
      rw [Nat.add_zero] at cx
      replace cx : wr.cell? ⟨bx, ox, none⟩ = some (.int .u8 (x.toNat : Int)) := cx
      dsimp only at hpA
      obtain ⟨A1, hA1⟩ : ∃ A1, A1 = (if pc = 1 then pA else pA.map (·.add (1 * 1))) := ⟨_, rfl⟩
      have HXT : Hid (BV.ok w Z ⟨A1, pc - 1, xs⟩) := Lib.hid (by
        have h1 := hxo.1.drop (k := 1) (cap := pc) (by simp) hxo.2.1
        have hp1 : xs.length + 1 ≤ pc := hxo.2.1
        have hp2 : pc ≤ maxLen := hxo.2.2
        refine ⟨?_, by show xs.length ≤ pc - 1; omega, by show pc - 1 ≤ maxLen; omega⟩
        rw [← hA1] at h1
        exact h1)
      have HSB := Lib.hid (fun W => by have := by_slice_tail pA xs.length pc W; rwa [← hA1] at this)
      have hlens : (x :: xs).length = xs.length + 1 := rfl
      have HP2 : Hid (((⟨⟨pA, pc, x :: xs⟩, pb1, pd⟩ : PV) :: M).map PV.s = ((x :: xs, pb1, pd) : PP) :: M.map PV.s) := Lib.hid rfl
      have hLb : L.length < 1000000 := by
        have h1 := congrArg List.length hF.out
        rw [List.length_append, List.length_take, List.length_take, HP2.out, hm] at h1
        have h2 : (flatP (((x :: xs, pb1, pd) : PP) :: M.map PV.s)).length ≥ 1 := by unfold flatP; simp <;> omega
        omega
      replace row : Row wr w2.heap.size 62 3 (some ⟨g, off, none⟩) (M.length + 1) cq (.slice pA (xs.length + 1) pc :: .bool pb1 :: .bool pd :: M.flatMap PV.cells) := row
      have r0 := row.cell (j := 0) rfl
      rw [Nat.add_zero] at r0
      have hmn : (L.length : Int) + 1 ≤ n := by omega
      replace bq : Blk wr qb 29 #[.slice (some ⟨g, off, none⟩) (M.length + 1) cq, .bool cl] := bq
      rw [List.length_cons] at hq0
      have hla : Below wr.heap.size wr (wr.alloc (.cells #[.int .u8 (x.toNat : Int)] 5)) := (Below.refl _ _).alloc (Nat.le_refl _) _
      have HOW := Lib.hid (hown.below hla)
      have HRL : Hid (By (wr.alloc (.cells #[.int .u8 (x.toNat : Int)] 5)) (fun _ => True) (some ⟨wr.heap.size, 0, none⟩) [x]) := Lib.hid ((Rd.lit (w := wr) (t := 5) (cs := #[.int .u8 (x.toNat : Int)]) (size := 1) (n := 1) (xs := [bv x]) (b := wr.heap.size) rfl rfl rfl).mono (fun _ _ _ => trivial))
      have hg3 : ablk A3 = some g := hAq g rfl
      have hg4 : g < w4.heap.size := (hlt4 g hg3).2
      have hgq : g ≠ qb := fun e => row.ne_blk bq (by decide) (by rw [e]; rfl)
      have HFM : Hid (∀ p ∈ M, 0 < p.x.l.length) := Lib.hid (fun p hp => hfull p (List.mem_cons_of_mem _ hp))
      clear hfull hlens hA1 hxf hxo hxy
      rw [hpA] at r0 HSB
      have hpA2 := Lib.hid hpA
      clear hpA
      go_upto_region 5 with (at_builtin; refine wpList_append_by rfl (.tmp 20) (.tmp 28) rfl rfl (v := .slice A2 L.length c2) (l := L) (m := [x]) HOW.out rfl HRL.out (by simp; omega) (by simp; omega) ?_; intro L5 A5 c5 w5 HL5 own5 hg5 hat5)
      have hb5 : Below w4.heap.size (wr.alloc (.cells #[.int .u8 (x.toNat : Int)] 5)) w5 := grown_belowP hg5 (Nat.le_trans hsz hla.size) (fun g e => (hown.lt g e).1)
      have f5 : Fr (fun b => b = qb ∨ ablk A3 = some b) w4 w5 := (hfr.then_below hla).trans (Fr.of_belowB hb5) (fun y hy e => by omega)
      have row5 := (row.below hla).fr (Fr.of_belowB hb5) (fun k hk e => by injection hk with hk; have hk' : g = k := hk; omega)
      have bq5 := (bq.below hla).fr (Fr.of_belowB hb5) (by omega)
      have hA1x := hpA2.out
      rw [hA1x] at row5
      clear hg5 hat5 HOW HRL hb5 row bq hq0 hq1 cx r0 hla hwr hown hlm hA1x
      refine wp_region_line (.tell 0 (.tell 1 (.tell 2 (.tell 3 (.tell 4 (.tell 5 (.tell 6 (.tell 7 (.tell 8 (.tell 9 .done)))))))))) (fun W => Below w5.heap.size w5 W) (by kernel_rfl) (by kernel_rfl) ?_
      refine pl_val (by (simp only [List.getElem?_toArray, List.getElem?_cons_zero]; rfl)) (by kernel_rfl) ⟨_, (by (intro w' hC; clear hC; (try go_simp); (try with_reducible rfl); done)), _, (by (simp only [Act.put, List.setIfInBounds_toArray, List.set_cons_zero, List.set_cons_succ]; rfl)), ?_⟩
      refine pl_val (by (simp only [List.getElem?_toArray, List.getElem?_cons_succ, List.getElem?_cons_zero]; rfl)) (by kernel_rfl) ⟨_, (by (intro w' hC; have q := (bq5.below hC).cell 0; simp only [List.getElem?_toArray, List.getElem?_cons_zero] at q; clear hC; (try go_simp); (try with_reducible rfl); done)), _, (by (simp only [Act.put, List.setIfInBounds_toArray, List.set_cons_zero, List.set_cons_succ]; rfl)), ?_⟩
      refine pl_val (by (simp only [List.getElem?_toArray, List.getElem?_cons_succ, List.getElem?_cons_zero]; rfl)) (by kernel_rfl) ⟨_, (by (intro w' hC; clear hC; (try go_simp); (try with_reducible rfl); done)), _, (by (simp only [Act.put, List.setIfInBounds_toArray, List.set_cons_zero, List.set_cons_succ]; rfl)), ?_⟩
      refine pl_val (by (simp only [List.getElem?_toArray, List.getElem?_cons_succ, List.getElem?_cons_zero]; rfl)) (by kernel_rfl) ⟨_, (by (intro w' hC; have q := (bq5.below hC).cell 0; simp only [List.getElem?_toArray, List.getElem?_cons_zero] at q; clear hC; (try go_simp); (try with_reducible rfl); done)), _, (by (simp only [Act.put, List.setIfInBounds_toArray, List.set_cons_zero, List.set_cons_succ]; rfl)), ?_⟩
      refine pl_val (by (simp only [List.getElem?_toArray, List.getElem?_cons_succ, List.getElem?_cons_zero]; rfl)) (by kernel_rfl) ⟨_, (by (intro w' hC; clear hC; (try go_simp); (try with_reducible rfl); done)), _, (by (simp only [Act.put, List.setIfInBounds_toArray, List.set_cons_zero, List.set_cons_succ]; rfl)), ?_⟩
      refine pl_val (by (simp only [List.getElem?_toArray, List.getElem?_cons_succ, List.getElem?_cons_zero]; rfl)) (by kernel_rfl) ⟨_, (by (intro w' hC; clear hC; (try go_simp); (try with_reducible rfl); done)), _, (by (simp only [Act.put, List.setIfInBounds_toArray, List.set_cons_zero, List.set_cons_succ]; rfl)), ?_⟩
      refine pl_val (by (simp only [List.getElem?_toArray, List.getElem?_cons_succ, List.getElem?_cons_zero]; rfl)) (by kernel_rfl) ⟨_, (by (intro w' hC; have r := (row5.below hC).cell (j := 0) rfl; (try rw [Nat.add_zero] at r); clear hC; (try go_simp); (try with_reducible rfl); done)), _, (by (simp only [Act.put, List.setIfInBounds_toArray, List.set_cons_zero, List.set_cons_succ]; rfl)), ?_⟩
      refine pl_val (by (simp only [List.getElem?_toArray, List.getElem?_cons_succ, List.getElem?_cons_zero]; rfl)) (by kernel_rfl) ⟨_, (by (intro w' hC; have hsl := HSB.out w'; clear hC; (try go_simp); (try with_reducible rfl); done)), _, (by (simp only [Act.put, List.setIfInBounds_toArray, List.set_cons_zero, List.set_cons_succ]; rfl)), ?_⟩
      refine pl_val (by (simp only [List.getElem?_toArray, List.getElem?_cons_succ, List.getElem?_cons_zero]; rfl)) (by kernel_rfl) ⟨_, (by (intro w' hC; clear hC; (try go_simp); (try with_reducible rfl); done)), _, (by (simp only [Act.put, List.setIfInBounds_toArray, List.set_cons_zero, List.set_cons_succ]; rfl)), ?_⟩
      refine pl_val (by (simp only [List.getElem?_toArray, List.getElem?_cons_succ, List.getElem?_cons_zero]; rfl)) (by kernel_rfl) ⟨_, (by (intro w' hC; clear hC; (try go_simp); (try with_reducible rfl); done)), _, (by (simp only [Act.put, List.setIfInBounds_toArray, List.set_cons_zero, List.set_cons_succ]; rfl)), ?_⟩
      have hB : Below w5.heap.size w5 w5.drew := (Below.refl _ _).drew
      refine pl_end hB ?_
      simp only [Plan.count, Nat.reduceAdd, List.drop_succ_cons, List.drop_zero]
      have row6 := row5.below hB
      have bq6 := bq5.below hB
      have f6 := f5.then_below hB
      have own6 := own5.below hB
      generalize w5.drew = w6 at *
      clear hB row5 bq5 f5 own5 HSB
      have r0 := row6.cell (j := 0) rfl
      rw [Nat.add_zero] at r0
      have r1 := row6.cell (j := 1) rfl
      have hq0 := bq6.cell 0
      simp only [List.getElem?_toArray, List.getElem?_cons_zero] at hq0
      have fz0 := row6.frozen off
      have fz1 := row6.frozen (off + 1)
      go_upto_region 7 with (fail)
      have rowV : Row ((w6.setCell ⟨g, off, none⟩ (.slice A1 xs.length (pc - 1))).setCell ⟨g, off + 1, none⟩ (.bool true)) w2.heap.size 62 3 (some ⟨g, off, none⟩) (M.length + 1) cq (.slice A1 xs.length (pc - 1) :: .bool true :: .bool pd :: M.flatMap PV.cells) := (row6.put 0 (.slice A1 xs.length (pc - 1))).put 1 (.bool true)
      have fV : Fr (fun k => k = g) w6 ((w6.setCell ⟨g, off, none⟩ (.slice A1 xs.length (pc - 1))).setCell ⟨g, off + 1, none⟩ (.bool true)) := ((Fr.refl (fun k => k = g) w6).setAt g off rfl _).setAt g (off + 1) rfl _
      generalize ((w6.setCell ⟨g, off, none⟩ (.slice A1 xs.length (pc - 1))).setCell ⟨g, off + 1, none⟩ (.bool true)) = V at *
      have bV := bq6.fr fV (fun e => hgq e.symm)
      have oV := own6.fr fV (fun k hk e => by have := (own6.lt k hk).1; omega)
      have fwV : Fr (fun b => b = qb ∨ ablk A3 = some b) w4 V := f6.trans fV (fun y _ e => .inr (by rw [e]; exact hg3))
      clear r0 r1 hq0 fz0 fz1 row6 bq6 f6 own6 fV
      have v0 := rowV.cell (j := 0) rfl
      rw [Nat.add_zero] at v0
      have vq := bV.cell 0
      simp only [List.getElem?_toArray, List.getElem?_cons_zero] at vq
      have vf := bV.frozen 0
      have hnm : n.toNat - L5.length = m := by rw [HL5.out, List.length_append, hm]; simp; omega
      have hnm0 : n.toNat - L.length = m + 1 := by omega
      rw [hnm0, HP2.out, flat_one] at hF
      rw [hnm0, HP2.out, dropS_one] at hD
      have HNM := Lib.hid hnm
      have hokM : ∀ p ∈ M, p.x.ok w Z := fun p hp => hok p (List.mem_cons_of_mem _ hp)
      have HL5L : Hid (L5.length = L.length + 1) := Lib.hid (by rw [HL5.out, List.length_append]; rfl)
      have HM1 := Lib.hid hm
      clear hnm hnm0 hok hm
      rcases xs with _ | ⟨y, ys⟩
      · rw [if_pos rfl] at hF hD
        have HFF : Hid (L5 ++ (flatP (M.map PV.s)).take (n.toNat - L5.length) = (flatP S).take n.toNat) := Lib.hid (by rw [HNM.out, ← hF.out, HL5.out, List.append_assoc]; rfl)
        have HDD : Hid (dropS (M.map PV.s) (n.toNat - L5.length) = dropS S n.toNat) := Lib.hid (by rw [HNM.out, ← hD.out])
        clear hF hD
        by_cases hcq : cq = 1
        · have hcqb : (cq : Int) = 1 := by omega
          go_wp2_with fail
          have rowT := rowV.tail (k := 1) (by omega)
          rw [if_pos hcq] at rowT
          rw [show M.length + 1 - 1 = M.length by omega, show cq - 1 = 0 by omega] at rowT
          have fT : Fr (fun k => k = qb) V (V.setCell ⟨qb, 0, none⟩ (.slice (some ⟨g, off, none⟩) M.length 0)) := (Fr.refl (fun k => k = qb) V).setAt qb 0 rfl _
          have bT := bV.set_ 0 (.slice (some ⟨g, off, none⟩) M.length 0)
          simp only [List.setIfInBounds_toArray, List.set_cons_zero] at bT
          have rT : ParsR (V.setCell ⟨qb, 0, none⟩ (.slice (some ⟨g, off, none⟩) M.length 0)) w2.heap.size (some ⟨g, off, none⟩) 0 M := Row.fr rowT fT (fun k hk e => hgq (by injection hk with hk; have hk' : g = k := hk; exact hk'.trans e))
          go_roundw
          case rel => exact ⟨⟨L5, A5, c5, M, (some ⟨g, off, none⟩), 0, rfl, oV.fr fT (fun k hk e => by have := (oV.lt k hk).1; omega), bT, rT, hokM, HFM.out, (fun k hk => hAq k hk), by have := HL5L.out; have := HM1.out; omega, HFF, HDD⟩, fwV.trans fT (fun y _ e => .inl e)⟩
          case measure => simp only [lenOf]; have := HL5L.out; have := HM1.out; omega
        · have hcq1 : ¬ cq - 1 = 0 := by have := rowV.room; omega
          go_wp2_with fail
          have rowT := rowV.tail (k := 1) (by omega)
          rw [if_neg hcq] at rowT
          rw [Option.map_some, add_none, show off + 1 * 3 = off + 3 by omega] at rowT
          rw [show M.length + 1 - 1 = M.length by omega] at rowT
          have fT : Fr (fun k => k = qb) V (V.setCell ⟨qb, 0, none⟩ (.slice (some ⟨g, off + 3, none⟩) M.length (cq - 1))) := (Fr.refl (fun k => k = qb) V).setAt qb 0 rfl _
          have bT := bV.set_ 0 (.slice (some ⟨g, off + 3, none⟩) M.length (cq - 1))
          simp only [List.setIfInBounds_toArray, List.set_cons_zero] at bT
          have rT : ParsR (V.setCell ⟨qb, 0, none⟩ (.slice (some ⟨g, off + 3, none⟩) M.length (cq - 1))) w2.heap.size (some ⟨g, off + 3, none⟩) (cq - 1) M := Row.fr rowT fT (fun k hk e => hgq (by injection hk with hk; have hk' : g = k := hk; exact hk'.trans e))
          go_roundw
          case rel => exact ⟨⟨L5, A5, c5, M, (some ⟨g, off + 3, none⟩), (cq - 1), rfl, oV.fr fT (fun k hk e => by have := (oV.lt k hk).1; omega), bT, rT, hokM, HFM.out, (fun k hk => hAq k hk), by have := HL5L.out; have := HM1.out; omega, HFF, HDD⟩, fwV.trans fT (fun y _ e => .inl e)⟩
          case measure => simp only [lenOf]; have := HL5L.out; have := HM1.out; omega
      · rw [if_neg (by simp)] at hF hD
        obtain ⟨xs, hxs⟩ : ∃ xs, xs = y :: ys := ⟨_, rfl⟩
        have hx0 : 0 < xs.length := by rw [hxs]; simp
        have hxb : ((xs.length : Int) == 0) = false := by rw [beq_eq_false_iff_ne]; omega
        rw [← hxs] at hF hD HXT rowV v0
        have HFF : Hid (L5 ++ (flatP (((⟨⟨A1, pc - 1, xs⟩, true, pd⟩ : PV) :: M).map PV.s)).take (n.toNat - L5.length) = (flatP S).take n.toNat) := Lib.hid (by rw [HNM.out, ← hF.out, HL5.out, List.append_assoc]; rfl)
        have HDD : Hid (dropS (((⟨⟨A1, pc - 1, xs⟩, true, pd⟩ : PV) :: M).map PV.s) (n.toNat - L5.length) = dropS S n.toNat) := Lib.hid (by rw [HNM.out, ← hD.out]; rfl)
        clear hF hD hxs
        go_wp2_with fail
        go_roundw
        case rel =>
          refine ⟨⟨L5, A5, c5, ⟨⟨A1, pc - 1, xs⟩, true, pd⟩ :: M, some ⟨g, off, none⟩, cq, rfl, oV, bV, rowV, ?_, ?_, hAq, by have := HL5L.out; have := HM1.out; omega, HFF, HDD⟩, fwV⟩
          · intro p hp
            rcases List.mem_cons.1 hp with rfl | hp
            · exact HXT.out
            · exact hokM p hp
          · intro p hp
            rcases List.mem_cons.1 hp with rfl | hp
            · exact hx0
            · exact HFM.out p hp
        case measure => simp only [lenOf]; have := HL5L.out; have := HM1.out; omega
    · have hwr' := hwr
      have u1r := u1.fr hfr (fun e => by
        rcases e with e | e
        · omega
        · have := (hlt4 _ e).1; omega)
      have HE : Hid (L = (flatP S).take n.toNat) ∧ Hid (M.map PV.s = dropS S n.toNat) := by
        by_cases h1 : (L.length : Int) < n
        · have hM0 : M = [] := List.eq_nil_of_length_eq_zero (by
            rcases Nat.eq_zero_or_pos M.length with h | h
            · exact h
            · exact absurd ⟨h1, h⟩ hgo)
          subst hM0
          exact ⟨Lib.hid (by rw [← hF.out]; simp [flatP]), Lib.hid (by rw [← hD.out]; simp [dropS])⟩
        · have h2 : n.toNat - L.length = 0 := by omega
          exact ⟨Lib.hid (by rw [← hF.out, h2]; simp), Lib.hid (by rw [← hD.out, h2, dropS_zero])⟩
      obtain ⟨HE1, HE2⟩ := HE
      have r0 := u1r.cell 0
      have r1 := u1r.cell 1
      simp only [List.getElem?_toArray, List.getElem?_cons_zero, List.getElem?_cons_succ] at r0 r1
      have fr := fun o => u1r.frozen o
      have HRW := Lib.hid row
      have HOWN := Lib.hid hown
      clear hF hD row hown hwr' hAq hfull
      have hl1 : w2.heap.size ≤ w4.heap.size := by omega
      by_cases h1 : (L.length : Int) < n
      · have h2 : M.length = 0 := by
          rcases Nat.eq_zero_or_pos M.length with h | h
          · exact h
          · exact absurd ⟨h1, h⟩ hgo
        obtain rfl : M = [] := List.eq_nil_of_length_eq_zero h2
        clear hgo h2
        rw [List.length_nil] at hq0
        go_wp2_with fail
        have kR : Fr (fun x => x = w.heap.size + 1) wr ((wr.setCell ⟨w.heap.size + 1, 0, none⟩ (.slice Aq 0 cq)).setCell ⟨w.heap.size + 1, 1, none⟩ (.bool cl)) := (((Fr.refl (fun x => x = w.heap.size + 1) wr).setAt (w.heap.size + 1) _ rfl _).setAt (w.heap.size + 1) _ rfl _)
        have yR := ((u1r.set_ 0 (.slice Aq 0 cq)).set_ 1 (.bool cl))
        simp only [List.setIfInBounds_toArray, List.set_cons_zero, List.set_cons_succ] at yR
        have hwR : Below w.heap.size w ((wr.setCell ⟨w.heap.size + 1, 0, none⟩ (.slice Aq 0 cq)).setCell ⟨w.heap.size + 1, 1, none⟩ (.bool cl)) := hwr.trans (kR.below (B := w.heap.size) hwr.size (fun k hk e => by omega))
        generalize ((wr.setCell ⟨w.heap.size + 1, 0, none⟩ (.slice Aq 0 cq)).setCell ⟨w.heap.size + 1, 1, none⟩ (.bool cl)) = wR at *
        have s0 := yR.cell 0
        have s1 := yR.cell 1
        simp only [List.getElem?_toArray, List.getElem?_cons_zero, List.getElem?_cons_succ] at s0 s1
        refine bodyPost_ret (v := .tuple #[.agg #[.slice Aq 0 cq, .bool cl], .slice A2 L.length c2]) (by simp [results, Try.results15, go_sem, s0, s1]) rfl ?_
        exact ⟨Aq, cq, [], A2, c2, L, rfl, RefP.of_row (base := w2.heap.size) (HRW.out.fr kR (fun g hg e => by have := (HRW.out.lt g hg).1; omega)) (fun b hb => hZ b (by omega)) (fun p hp => (hok p hp).below hwR), HE2, HE1, own_base (HOWN.out.fr kR (fun g hg e => by have := (HOWN.out.lt g hg).1; omega)) (fun g hg => by have := (HOWN.out.lt g hg).1; omega), hwR⟩
      · clear hgo
        go_wp2_with fail
        have kR : Fr (fun x => x = w.heap.size + 1) wr ((wr.setCell ⟨w.heap.size + 1, 0, none⟩ (.slice Aq M.length cq)).setCell ⟨w.heap.size + 1, 1, none⟩ (.bool cl)) := (((Fr.refl (fun x => x = w.heap.size + 1) wr).setAt (w.heap.size + 1) _ rfl _).setAt (w.heap.size + 1) _ rfl _)
        have yR := ((u1r.set_ 0 (.slice Aq M.length cq)).set_ 1 (.bool cl))
        simp only [List.setIfInBounds_toArray, List.set_cons_zero, List.set_cons_succ] at yR
        have hwR : Below w.heap.size w ((wr.setCell ⟨w.heap.size + 1, 0, none⟩ (.slice Aq M.length cq)).setCell ⟨w.heap.size + 1, 1, none⟩ (.bool cl)) := hwr.trans (kR.below (B := w.heap.size) hwr.size (fun k hk e => by omega))
        generalize ((wr.setCell ⟨w.heap.size + 1, 0, none⟩ (.slice Aq M.length cq)).setCell ⟨w.heap.size + 1, 1, none⟩ (.bool cl)) = wR at *
        have s0 := yR.cell 0
        have s1 := yR.cell 1
        simp only [List.getElem?_toArray, List.getElem?_cons_zero, List.getElem?_cons_succ] at s0 s1
        refine bodyPost_ret (v := .tuple #[.agg #[.slice Aq M.length cq, .bool cl], .slice A2 L.length c2]) (by simp [results, Try.results15, go_sem, s0, s1]) rfl ?_
        exact ⟨Aq, cq, M, A2, c2, L, rfl, RefP.of_row (base := w2.heap.size) (HRW.out.fr kR (fun g hg e => by have := (HRW.out.lt g hg).1; omega)) (fun b hb => hZ b (by omega)) (fun p hp => (hok p hp).below hwR), HE2, HE1, own_base (HOWN.out.fr kR (fun g hg e => by have := (HOWN.out.lt g hg).1; omega)) (fun g hg => by have := (HOWN.out.lt g hg).1; omega), hwR⟩

end Go.Proofs.Yticfjnjeoikalaa

/- tenderref16: Flip. -/
namespace Go.Proofs.Yticfjnjeoikalaa
open Go.RowKit

section
variable {w : World} {base g off c n : Nat} {e : TypeId} {ls : List PV} {k : Nat}
theorem parE_dam (h : Row w base e 3 (some ⟨g, off, none⟩) n c (ls.flatMap PV.cells)) (hk : k < ls.length) : Row (w.setCell ⟨g, off + k * 3 + 2, none⟩ (.bool true)) base e 3 (some ⟨g, off, none⟩) n c ((ls.set k { ls[k] with d := true }).flatMap PV.cells) := by
  have h1 := h.put (k * 3 + 2) (.bool true)
  rw [← Nat.add_assoc] at h1
  rw [← par_set ls k _ hk]
  have e0 : (ls.flatMap PV.cells)[k * 3]? = some (.slice ls[k].x.A ls[k].x.l.length ls[k].x.c) := flat_get (k := 3) (fun _ => rfl) ls k 0 hk (by omega)
  have e1 : (ls.flatMap PV.cells)[k * 3 + 1]? = some (.bool ls[k].b) := flat_get (k := 3) (fun _ => rfl) ls k 1 hk (by omega)
  have s0 : (ls.flatMap PV.cells).set (k * 3) (.slice ls[k].x.A ls[k].x.l.length ls[k].x.c) = ls.flatMap PV.cells := by
    obtain ⟨hl, he⟩ := List.getElem?_eq_some_iff.1 e0
    rw [← he, List.set_getElem_self]
  have s1 : (ls.flatMap PV.cells).set (k * 3 + 1) (.bool ls[k].b) = ls.flatMap PV.cells := by
    obtain ⟨hl, he⟩ := List.getElem?_eq_some_iff.1 e1
    rw [← he, List.set_getElem_self]
  show Row _ base _ 3 _ n c ((((ls.flatMap PV.cells).set (k * 3) (.slice ls[k].x.A ls[k].x.l.length ls[k].x.c)).set (k * 3 + 1) (.bool ls[k].b)).set (k * 3 + 2) (.bool true))
  rw [s0, s1]
  exact h1
theorem parE_x (h : Row w base e 3 (some ⟨g, off, none⟩) n c (ls.flatMap PV.cells)) (hk : k < ls.length) (x : BV) : Row (w.setCell ⟨g, off + k * 3, none⟩ (.slice x.A x.l.length x.c)) base e 3 (some ⟨g, off, none⟩) n c ((ls.set k { ls[k] with x := x }).flatMap PV.cells) := by
  have h1 := h.put (k * 3) (.slice x.A x.l.length x.c)
  rw [← par_set ls k _ hk]
  have e1 : ((ls.flatMap PV.cells).set (k * 3) (.slice x.A x.l.length x.c))[k * 3 + 1]? = some (.bool ls[k].b) := by
    rw [List.getElem?_set_ne (by omega)]; exact flat_get (k := 3) (fun _ => rfl) ls k 1 hk (by omega)
  have e2 : ((ls.flatMap PV.cells).set (k * 3) (.slice x.A x.l.length x.c))[k * 3 + 2]? = some (.bool ls[k].d) := by
    rw [List.getElem?_set_ne (by omega)]; exact flat_get (k := 3) (fun _ => rfl) ls k 2 hk (by omega)
  show Row _ base _ 3 _ n c ((((ls.flatMap PV.cells).set (k * 3) (.slice x.A x.l.length x.c)).set (k * 3 + 1) (.bool ls[k].b)).set (k * 3 + 2) (.bool ls[k].d))
  have s1 : ((ls.flatMap PV.cells).set (k * 3) (.slice x.A x.l.length x.c)).set (k * 3 + 1) (.bool ls[k].b) = (ls.flatMap PV.cells).set (k * 3) (.slice x.A x.l.length x.c) := by
    obtain ⟨hl, he⟩ := List.getElem?_eq_some_iff.1 e1
    rw [← he, List.set_getElem_self]
  have s2 : ((ls.flatMap PV.cells).set (k * 3) (.slice x.A x.l.length x.c)).set (k * 3 + 2) (.bool ls[k].d) = (ls.flatMap PV.cells).set (k * 3) (.slice x.A x.l.length x.c) := by
    obtain ⟨hl, he⟩ := List.getElem?_eq_some_iff.1 e2
    rw [← he, List.set_getElem_self]
  rw [s1, s2]
  exact h1
theorem parE_cell (h : Row w base e 3 (some ⟨g, off, none⟩) n c (ls.flatMap PV.cells)) (hk : k < ls.length) : w.cell? ⟨g, off + k * 3, none⟩ = some (.slice ls[k].x.A ls[k].x.l.length ls[k].x.c) ∧ w.cell? ⟨g, off + k * 3 + 1, none⟩ = some (.bool ls[k].b) ∧ w.cell? ⟨g, off + k * 3 + 2, none⟩ = some (.bool ls[k].d) := by
  have hg : ∀ j, j < 3 → (ls.flatMap PV.cells)[k * 3 + j]? = (PV.cells ls[k])[j]? := fun j hj => flat_get (k := 3) (fun _ => rfl) ls k j hk hj
  refine ⟨h.cell (hg 0 (by omega)), ?_, ?_⟩
  · rw [Nat.add_assoc]; exact h.cell (hg 1 (by omega))
  · rw [Nat.add_assoc]; exact h.cell (hg 2 (by omega))
end

set_option maxRecDepth 100000 in
set_option maxHeartbeats 4000000 in
theorem refFlip_no (A : Option Addr) (c : Nat) (ls : List PV) (cl : Bool) (i bit : Int) (mask : Nat) (Z : Nat → Prop) (w : World) (h : RefP w Z A c ls) (hlen : ∀ p ∈ ls, p.x.l.length ≤ 1000000)
    (hn : ¬ (∃ k : Nat, ∃ hk : k < ls.length, i = (k : Int) ∧ ls[k].b = false ∧ ls[k].d = false ∧ 0 ≤ bit ∧ bit < 8 * (ls[k].x.l.length : Int))) :
    Calls Try.prog 18 #[.agg #[.slice A ls.length c, .bool cl], .int .i64 i, .int .i64 bit, .int .u32 (mask : Int)] w fun e w' => ∃ (A' : Option Addr) (c' : Nat) (ls' : List PV), e = .returned (.tuple #[.agg #[.slice A' ls'.length c', .bool cl], .bool (flipS (ls.map PV.s) i bit mask).2]) ∧ RefP w' Z A' c' ls' ∧ Hid (ls'.map PV.s = (flipS (ls.map PV.s) i bit mask).1) ∧ Below w.heap.size w w' := by
  have hw2 : Below w.heap.size w ((w.alloc (.cells #[.slice A ls.length c, .bool cl] 29)).alloc (.cells #[.slice none 0 0, .bool false] 29)) := ((Below.refl _ _).alloc (Nat.le_refl _) _).alloc (by simp) _
  have x0 : Blk ((w.alloc (.cells #[.slice A ls.length c, .bool cl] 29)).alloc (.cells #[.slice none 0 0, .bool false] 29)) w.heap.size 29 #[.slice A ls.length c, .bool cl] := (Blk.new w 29 #[.slice A ls.length c, .bool cl]).below ((Below.refl _ _).alloc (Nat.le_refl _) _)
  have x1 : Blk ((w.alloc (.cells #[.slice A ls.length c, .bool cl] 29)).alloc (.cells #[.slice none 0 0, .bool false] 29)) (w.heap.size + 1) 29 #[.slice none 0 0, .bool false] := by
    have := Blk.new (w.alloc (.cells #[.slice A ls.length c, .bool cl] 29)) 29 #[.slice none 0 0, .bool false]
    rwa [show (w.alloc (.cells #[.slice A ls.length c, .bool cl] 29)).heap.size = w.heap.size + 1 by simp] at this
  have HH := Lib.hid h
  have HR := Lib.hid (h.below hw2)
  have l2 := x1.lt
  clear h
  by_cases hi : i < 0 ∨ (ls.length : Int) ≤ i
  · rw [flipS_out (by simpa using hi)]
    clear hn
    by_cases h0 : i < 0
    · clear hi
      go_enter Try.func18, Try.ntmps18
      go_upto_region 1 with (fail)
      generalize ((w.alloc (.cells #[.slice A ls.length c, .bool cl] 29)).alloc (.cells #[.slice none 0 0, .bool false] 29)) = w2 at *
      have q0 := x0.cell 0
      have q1 := x0.cell 1
      simp only [List.getElem?_toArray, List.getElem?_cons_zero, List.getElem?_cons_succ] at q0 q1
      have r0 := x1.cell 0
      have r1 := x1.cell 1
      simp only [List.getElem?_toArray, List.getElem?_cons_zero, List.getElem?_cons_succ] at r0 r1
      have fr := fun o => x1.frozen o
      go_wp2_with fail
      have kR : Fr (fun x => x = w.heap.size + 1) w2 ((w2.setCell ⟨w.heap.size + 1, 0, none⟩ (.slice A ls.length c)).setCell ⟨w.heap.size + 1, 1, none⟩ (.bool cl)) := (((Fr.refl (fun x => x = w.heap.size + 1) w2).setAt (w.heap.size + 1) _ rfl _).setAt (w.heap.size + 1) _ rfl _)
      have yR := ((x1.set_ 0 (.slice A ls.length c)).set_ 1 (.bool cl))
      simp only [List.setIfInBounds_toArray, List.set_cons_zero, List.set_cons_succ] at yR
      have hwR : Below w.heap.size w ((w2.setCell ⟨w.heap.size + 1, 0, none⟩ (.slice A ls.length c)).setCell ⟨w.heap.size + 1, 1, none⟩ (.bool cl)) := hw2.trans (kR.below (B := w.heap.size) hw2.size (fun k hk e => by omega))
      generalize ((w2.setCell ⟨w.heap.size + 1, 0, none⟩ (.slice A ls.length c)).setCell ⟨w.heap.size + 1, 1, none⟩ (.bool cl)) = wR at *
      have s0 := yR.cell 0
      have s1 := yR.cell 1
      simp only [List.getElem?_toArray, List.getElem?_cons_zero, List.getElem?_cons_succ] at s0 s1
      refine bodyPost_ret (v := .tuple #[.agg #[.slice A ls.length c, .bool cl], .bool false]) (by simp [results, Try.results18, go_sem, s0, s1]) rfl ?_
      exact ⟨A, c, ls, rfl, HH.out.below hwR, Lib.hid rfl, hwR⟩
    · have h1 : (ls.length : Int) ≤ i := by omega
      clear hi
      go_enter Try.func18, Try.ntmps18
      go_upto_region 1 with (fail)
      generalize ((w.alloc (.cells #[.slice A ls.length c, .bool cl] 29)).alloc (.cells #[.slice none 0 0, .bool false] 29)) = w2 at *
      have q0 := x0.cell 0
      have q1 := x0.cell 1
      simp only [List.getElem?_toArray, List.getElem?_cons_zero, List.getElem?_cons_succ] at q0 q1
      have r0 := x1.cell 0
      have r1 := x1.cell 1
      simp only [List.getElem?_toArray, List.getElem?_cons_zero, List.getElem?_cons_succ] at r0 r1
      have fr := fun o => x1.frozen o
      go_wp2_with fail
      have kR : Fr (fun x => x = w.heap.size + 1) w2 ((w2.setCell ⟨w.heap.size + 1, 0, none⟩ (.slice A ls.length c)).setCell ⟨w.heap.size + 1, 1, none⟩ (.bool cl)) := (((Fr.refl (fun x => x = w.heap.size + 1) w2).setAt (w.heap.size + 1) _ rfl _).setAt (w.heap.size + 1) _ rfl _)
      have yR := ((x1.set_ 0 (.slice A ls.length c)).set_ 1 (.bool cl))
      simp only [List.setIfInBounds_toArray, List.set_cons_zero, List.set_cons_succ] at yR
      have hwR : Below w.heap.size w ((w2.setCell ⟨w.heap.size + 1, 0, none⟩ (.slice A ls.length c)).setCell ⟨w.heap.size + 1, 1, none⟩ (.bool cl)) := hw2.trans (kR.below (B := w.heap.size) hw2.size (fun k hk e => by omega))
      generalize ((w2.setCell ⟨w.heap.size + 1, 0, none⟩ (.slice A ls.length c)).setCell ⟨w.heap.size + 1, 1, none⟩ (.bool cl)) = wR at *
      have s0 := yR.cell 0
      have s1 := yR.cell 1
      simp only [List.getElem?_toArray, List.getElem?_cons_zero, List.getElem?_cons_succ] at s0 s1
      refine bodyPost_ret (v := .tuple #[.agg #[.slice A ls.length c, .bool cl], .bool false]) (by simp [results, Try.results18, go_sem, s0, s1]) rfl ?_
      exact ⟨A, c, ls, rfl, HH.out.below hwR, Lib.hid rfl, hwR⟩
  · obtain ⟨k, rfl⟩ : ∃ k : Nat, i = k := ⟨i.toNat, by omega⟩
    have hk : k < ls.length := by omega
    have hp : (ls.map PV.s)[k]? = some ls[k].s := by rw [List.getElem?_map, List.getElem?_eq_getElem hk]; rfl
    obtain ⟨g, off, rfl, _, hgl, c0, c1, c2⟩ := HR.out.par hk
    have hll := hlen _ (List.getElem_mem hk)
    have n0 : ¬ (k : Int) < 0 := by omega
    have n1 : ¬ (ls.length : Int) ≤ (k : Int) := by omega
    have hn2 : ls[k].s.2.1 = true ∨ ls[k].s.2.2 = true ∨ bit < 0 ∨ 8 * (ls[k].s.1.length : Int) ≤ bit := by
      rcases hb : ls[k].b with _ | _
      · rcases hd : ls[k].d with _ | _
        · right; right
          by_cases h : bit < 0
          · exact .inl h
          · by_cases h2 : bit < 8 * (ls[k].x.l.length : Int)
            · exact absurd ⟨k, hk, rfl, hb, hd, by omega, h2⟩ hn
            · exact .inr (by show 8 * (ls[k].x.l.length : Int) ≤ bit; omega)
        · exact .inr (.inl hd)
      · exact .inl hb
    rw [flipS_no hp hn2]
    clear hn hp hi hlen
    generalize ls[k] = p at *
    obtain ⟨⟨pA, pc, pl⟩, pb1, pd⟩ := p
    dsimp only [PV.s] at *
    have hw8 : IntKind.i64.wrap (8 * (pl.length : Int)) = 8 * (pl.length : Int) := by rw [IntKind.wrap_i64]; omega
    rcases pb1 with _ | _
    · rcases pd with _ | _
      · by_cases h3 : bit < 0
        · clear hn2
          go_enter Try.func18, Try.ntmps18
          go_upto_region 1 with (fail)
          generalize ((w.alloc (.cells #[.slice (some ⟨g, off, none⟩) ls.length c, .bool cl] 29)).alloc (.cells #[.slice none 0 0, .bool false] 29)) = w2 at *
          have q0 := x0.cell 0
          have q1 := x0.cell 1
          simp only [List.getElem?_toArray, List.getElem?_cons_zero, List.getElem?_cons_succ] at q0 q1
          have r0 := x1.cell 0
          have r1 := x1.cell 1
          simp only [List.getElem?_toArray, List.getElem?_cons_zero, List.getElem?_cons_succ] at r0 r1
          have fr := fun o => x1.frozen o
          go_wp2_with fail
          have kR : Fr (fun x => x = w.heap.size + 1) w2 ((w2.setCell ⟨w.heap.size + 1, 0, none⟩ (.slice (some ⟨g, off, none⟩) ls.length c)).setCell ⟨w.heap.size + 1, 1, none⟩ (.bool cl)) := (((Fr.refl (fun x => x = w.heap.size + 1) w2).setAt (w.heap.size + 1) _ rfl _).setAt (w.heap.size + 1) _ rfl _)
          have yR := ((x1.set_ 0 (.slice (some ⟨g, off, none⟩) ls.length c)).set_ 1 (.bool cl))
          simp only [List.setIfInBounds_toArray, List.set_cons_zero, List.set_cons_succ] at yR
          have hwR : Below w.heap.size w ((w2.setCell ⟨w.heap.size + 1, 0, none⟩ (.slice (some ⟨g, off, none⟩) ls.length c)).setCell ⟨w.heap.size + 1, 1, none⟩ (.bool cl)) := hw2.trans (kR.below (B := w.heap.size) hw2.size (fun k hk e => by omega))
          generalize ((w2.setCell ⟨w.heap.size + 1, 0, none⟩ (.slice (some ⟨g, off, none⟩) ls.length c)).setCell ⟨w.heap.size + 1, 1, none⟩ (.bool cl)) = wR at *
          have s0 := yR.cell 0
          have s1 := yR.cell 1
          simp only [List.getElem?_toArray, List.getElem?_cons_zero, List.getElem?_cons_succ] at s0 s1
          refine bodyPost_ret (v := .tuple #[.agg #[.slice (some ⟨g, off, none⟩) ls.length c, .bool cl], .bool false]) (by simp [results, Try.results18, go_sem, s0, s1]) rfl ?_
          exact ⟨(some ⟨g, off, none⟩), c, ls, rfl, HH.out.below hwR, Lib.hid rfl, hwR⟩
        · have h4 : 8 * (pl.length : Int) ≤ bit := by simp at hn2; omega
          clear hn2
          go_enter Try.func18, Try.ntmps18
          go_upto_region 1 with (fail)
          generalize ((w.alloc (.cells #[.slice (some ⟨g, off, none⟩) ls.length c, .bool cl] 29)).alloc (.cells #[.slice none 0 0, .bool false] 29)) = w2 at *
          have q0 := x0.cell 0
          have q1 := x0.cell 1
          simp only [List.getElem?_toArray, List.getElem?_cons_zero, List.getElem?_cons_succ] at q0 q1
          have r0 := x1.cell 0
          have r1 := x1.cell 1
          simp only [List.getElem?_toArray, List.getElem?_cons_zero, List.getElem?_cons_succ] at r0 r1
          have fr := fun o => x1.frozen o
          go_wp2_with fail
          have kR : Fr (fun x => x = w.heap.size + 1) w2 ((w2.setCell ⟨w.heap.size + 1, 0, none⟩ (.slice (some ⟨g, off, none⟩) ls.length c)).setCell ⟨w.heap.size + 1, 1, none⟩ (.bool cl)) := (((Fr.refl (fun x => x = w.heap.size + 1) w2).setAt (w.heap.size + 1) _ rfl _).setAt (w.heap.size + 1) _ rfl _)
          have yR := ((x1.set_ 0 (.slice (some ⟨g, off, none⟩) ls.length c)).set_ 1 (.bool cl))
          simp only [List.setIfInBounds_toArray, List.set_cons_zero, List.set_cons_succ] at yR
          have hwR : Below w.heap.size w ((w2.setCell ⟨w.heap.size + 1, 0, none⟩ (.slice (some ⟨g, off, none⟩) ls.length c)).setCell ⟨w.heap.size + 1, 1, none⟩ (.bool cl)) := hw2.trans (kR.below (B := w.heap.size) hw2.size (fun k hk e => by omega))
          generalize ((w2.setCell ⟨w.heap.size + 1, 0, none⟩ (.slice (some ⟨g, off, none⟩) ls.length c)).setCell ⟨w.heap.size + 1, 1, none⟩ (.bool cl)) = wR at *
          have s0 := yR.cell 0
          have s1 := yR.cell 1
          simp only [List.getElem?_toArray, List.getElem?_cons_zero, List.getElem?_cons_succ] at s0 s1
          refine bodyPost_ret (v := .tuple #[.agg #[.slice (some ⟨g, off, none⟩) ls.length c, .bool cl], .bool false]) (by simp [results, Try.results18, go_sem, s0, s1]) rfl ?_
          exact ⟨(some ⟨g, off, none⟩), c, ls, rfl, HH.out.below hwR, Lib.hid rfl, hwR⟩
      · clear hn2
        go_enter Try.func18, Try.ntmps18
        go_upto_region 1 with (fail)
        generalize ((w.alloc (.cells #[.slice (some ⟨g, off, none⟩) ls.length c, .bool cl] 29)).alloc (.cells #[.slice none 0 0, .bool false] 29)) = w2 at *
        have q0 := x0.cell 0
        have q1 := x0.cell 1
        simp only [List.getElem?_toArray, List.getElem?_cons_zero, List.getElem?_cons_succ] at q0 q1
        have r0 := x1.cell 0
        have r1 := x1.cell 1
        simp only [List.getElem?_toArray, List.getElem?_cons_zero, List.getElem?_cons_succ] at r0 r1
        have fr := fun o => x1.frozen o
        go_wp2_with fail
        have kR : Fr (fun x => x = w.heap.size + 1) w2 ((w2.setCell ⟨w.heap.size + 1, 0, none⟩ (.slice (some ⟨g, off, none⟩) ls.length c)).setCell ⟨w.heap.size + 1, 1, none⟩ (.bool cl)) := (((Fr.refl (fun x => x = w.heap.size + 1) w2).setAt (w.heap.size + 1) _ rfl _).setAt (w.heap.size + 1) _ rfl _)
        have yR := ((x1.set_ 0 (.slice (some ⟨g, off, none⟩) ls.length c)).set_ 1 (.bool cl))
        simp only [List.setIfInBounds_toArray, List.set_cons_zero, List.set_cons_succ] at yR
        have hwR : Below w.heap.size w ((w2.setCell ⟨w.heap.size + 1, 0, none⟩ (.slice (some ⟨g, off, none⟩) ls.length c)).setCell ⟨w.heap.size + 1, 1, none⟩ (.bool cl)) := hw2.trans (kR.below (B := w.heap.size) hw2.size (fun k hk e => by omega))
        generalize ((w2.setCell ⟨w.heap.size + 1, 0, none⟩ (.slice (some ⟨g, off, none⟩) ls.length c)).setCell ⟨w.heap.size + 1, 1, none⟩ (.bool cl)) = wR at *
        have s0 := yR.cell 0
        have s1 := yR.cell 1
        simp only [List.getElem?_toArray, List.getElem?_cons_zero, List.getElem?_cons_succ] at s0 s1
        refine bodyPost_ret (v := .tuple #[.agg #[.slice (some ⟨g, off, none⟩) ls.length c, .bool cl], .bool false]) (by simp [results, Try.results18, go_sem, s0, s1]) rfl ?_
        exact ⟨(some ⟨g, off, none⟩), c, ls, rfl, HH.out.below hwR, Lib.hid rfl, hwR⟩
    · clear hn2
      go_enter Try.func18, Try.ntmps18
      go_upto_region 1 with (fail)
      generalize ((w.alloc (.cells #[.slice (some ⟨g, off, none⟩) ls.length c, .bool cl] 29)).alloc (.cells #[.slice none 0 0, .bool false] 29)) = w2 at *
      have q0 := x0.cell 0
      have q1 := x0.cell 1
      simp only [List.getElem?_toArray, List.getElem?_cons_zero, List.getElem?_cons_succ] at q0 q1
      have r0 := x1.cell 0
      have r1 := x1.cell 1
      simp only [List.getElem?_toArray, List.getElem?_cons_zero, List.getElem?_cons_succ] at r0 r1
      have fr := fun o => x1.frozen o
      go_wp2_with fail
      have kR : Fr (fun x => x = w.heap.size + 1) w2 ((w2.setCell ⟨w.heap.size + 1, 0, none⟩ (.slice (some ⟨g, off, none⟩) ls.length c)).setCell ⟨w.heap.size + 1, 1, none⟩ (.bool cl)) := (((Fr.refl (fun x => x = w.heap.size + 1) w2).setAt (w.heap.size + 1) _ rfl _).setAt (w.heap.size + 1) _ rfl _)
      have yR := ((x1.set_ 0 (.slice (some ⟨g, off, none⟩) ls.length c)).set_ 1 (.bool cl))
      simp only [List.setIfInBounds_toArray, List.set_cons_zero, List.set_cons_succ] at yR
      have hwR : Below w.heap.size w ((w2.setCell ⟨w.heap.size + 1, 0, none⟩ (.slice (some ⟨g, off, none⟩) ls.length c)).setCell ⟨w.heap.size + 1, 1, none⟩ (.bool cl)) := hw2.trans (kR.below (B := w.heap.size) hw2.size (fun k hk e => by omega))
      generalize ((w2.setCell ⟨w.heap.size + 1, 0, none⟩ (.slice (some ⟨g, off, none⟩) ls.length c)).setCell ⟨w.heap.size + 1, 1, none⟩ (.bool cl)) = wR at *
      have s0 := yR.cell 0
      have s1 := yR.cell 1
      simp only [List.getElem?_toArray, List.getElem?_cons_zero, List.getElem?_cons_succ] at s0 s1
      refine bodyPost_ret (v := .tuple #[.agg #[.slice (some ⟨g, off, none⟩) ls.length c, .bool cl], .bool false]) (by simp [results, Try.results18, go_sem, s0, s1]) rfl ?_
      exact ⟨(some ⟨g, off, none⟩), c, ls, rfl, HH.out.below hwR, Lib.hid rfl, hwR⟩


set_option maxRecDepth 100000 in
set_option maxHeartbeats 4000000 in
theorem refFlip_yes (A : Option Addr) (c : Nat) (ls : List PV) (cl : Bool) (k bit mask : Nat) (Z : Nat → Prop) (w : World) (h : RefP w Z A c ls) (hn : ls.length ≤ 900000) (hlen : ∀ p ∈ ls, p.x.l.length ≤ 1000000) (hm : mask < 4294967296) (hZ : ∀ b, w.heap.size ≤ b → Z b)
    (hk : k < ls.length) (hb0 : ls[k].b = false) (hd0 : ls[k].d = false) (hbit : bit < 8 * ls[k].x.l.length) :
    Calls Try.prog 18 #[.agg #[.slice A ls.length c, .bool cl], .int .i64 (k : Int), .int .i64 (bit : Int), .int .u32 (mask : Int)] w fun e w' => ∃ (A' : Option Addr) (c' : Nat) (ls' : List PV), e = .returned (.tuple #[.agg #[.slice A' ls'.length c', .bool cl], .bool (flipB ls[k].x.l bit mask).2]) ∧ RefP w' Z A' c' ls' ∧ Hid (ls'.map PV.s = (ls.map PV.s).set k ((flipB ls[k].x.l bit mask).1, false, (flipB ls[k].x.l bit mask).2)) ∧ Below w.heap.size w w' := by
  have hw2 : Below w.heap.size w ((w.alloc (.cells #[.slice A ls.length c, .bool cl] 29)).alloc (.cells #[.slice none 0 0, .bool false] 29)) := ((Below.refl _ _).alloc (Nat.le_refl _) _).alloc (by simp) _
  have x0 : Blk ((w.alloc (.cells #[.slice A ls.length c, .bool cl] 29)).alloc (.cells #[.slice none 0 0, .bool false] 29)) w.heap.size 29 #[.slice A ls.length c, .bool cl] := (Blk.new w 29 #[.slice A ls.length c, .bool cl]).below ((Below.refl _ _).alloc (Nat.le_refl _) _)
  have x1 : Blk ((w.alloc (.cells #[.slice A ls.length c, .bool cl] 29)).alloc (.cells #[.slice none 0 0, .bool false] 29)) (w.heap.size + 1) 29 #[.slice none 0 0, .bool false] := by
    have := Blk.new (w.alloc (.cells #[.slice A ls.length c, .bool cl] 29)) 29 #[.slice none 0 0, .bool false]
    rwa [show (w.alloc (.cells #[.slice A ls.length c, .bool cl] 29)).heap.size = w.heap.size + 1 by simp] at this
  have HH := Lib.hid h
  have HC := Lib.hid (copied_any A c ls cl Z _ (h.below hw2) (by omega))
  have HR := Lib.hid (h.below hw2)
  have lx1 := x1.lt
  obtain ⟨p, hp⟩ : ∃ p, p = ls[k] := ⟨_, rfl⟩
  have HP := Lib.hid hp
  have hll := hlen _ (List.getElem_mem hk)
  obtain ⟨g, off, rfl, _, hgl, c0, c1, c2⟩ := HR.out.par hk
  have hok := h.ok _ (List.getElem_mem hk)
  have n0 : ¬ (k : Int) < 0 := by omega
  have n1 : ¬ (ls.length : Int) ≤ (k : Int) := by omega
  rw [← hp] at c0 c1 c2 hb0 hd0 hll hok hbit ⊢
  obtain ⟨⟨pA, pc, l⟩, pb1, pd⟩ := p
  dsimp only at *
  subst hb0 hd0
  have HOK := Lib.hid hok
  have hw8 : IntKind.i64.wrap (8 * (l.length : Int)) = 8 * (l.length : Int) := by rw [IntKind.wrap_i64]; omega
  have hbi : ¬ 8 * (l.length : Int) ≤ (bit : Int) := by omega
  obtain ⟨F, hF⟩ : ∃ F, F = flipB l bit mask := ⟨_, rfl⟩
  have HF := Lib.hid hF
  rw [← hF]
  clear h hok hp hF hlen
  go_enter Try.func18, Try.ntmps18
  go_upto_region 1 with (fail)
  generalize ((w.alloc (.cells #[.slice (some ⟨g, off, none⟩) ls.length c, .bool cl] 29)).alloc (.cells #[.slice none 0 0, .bool false] 29)) = w2 at *
  have q0 := x0.cell 0
  have q1 := x0.cell 1
  simp only [List.getElem?_toArray, List.getElem?_cons_zero, List.getElem?_cons_succ] at q0 q1
  go_wp2_with fail
  refine HC.out.mono ?_
  rintro e w3 ⟨A3, c3, rfl, row3, hb3⟩
  have hw3 := hw2.trans (hb3.mono hw2.size)
  have hba : Below w3.heap.size w3 (w3.alloc (.cells #[.slice A3 ls.length c3, .bool cl] 29)) := (Below.refl _ _).alloc (Nat.le_refl _) _
  have yq : Blk (w3.alloc (.cells #[.slice A3 ls.length c3, .bool cl] 29)) w3.heap.size 29 #[.slice A3 ls.length c3, .bool cl] := Blk.new w3 29 _
  have u1 := (x1.below hb3).below hba
  have u0 := (x0.below hb3).below hba
  have row4 := row3.below hba
  have hw4 := hw3.trans (hba.mono hw3.size)
  obtain ⟨qb, hqb⟩ : ∃ qb, qb = w3.heap.size := ⟨_, rfl⟩
  rw [← hqb] at yq
  have l23 := hb3.size
  go_upto_region 4 with (fail)
  rw [← hqb]
  generalize (w3.alloc (.cells #[.slice A3 ls.length c3, .bool cl] 29)) = w4 at *
  have hq23 : w2.heap.size ≤ qb := by omega
  have z4 := yq.lt
  clear hqb HC q0 q1 x0 x1 hb3 hba row3 hw3 l23 c0 c1 c2
  obtain ⟨g3, off3, rfl, hg3b, hg3l⟩ := row4.addr (by omega)
  have hla : Below w4.heap.size w4 (w4.alloc (.cells #[] 5)) := (Below.refl _ _).alloc (Nat.le_refl _) _
  have OWN : Hid (OwB (w4.alloc (.cells #[] 5)) w4.heap.size (.slice (some ⟨w4.heap.size, 0, none⟩) 0 0) []) := Lib.hid (World.ownsRow_lit (base := w4.heap.size) (e := 5) (size := 1) w4 #[] 0 (Nat.le_refl _) (by simp [maxLen]) (by simp))
  have HRB := Lib.hid (HOK.out.below (hw4.trans (hla.mono hw4.size))).1
  obtain ⟨g', off', e9, _, hgl4, c0, _, _⟩ := (HH.out.below hw4).par hk
  injection e9 with e9
  injection e9 with e9 e10
  subst e9 e10
  rw [← HP.out] at c0
  dsimp only at c0
  have lu0 := u0.lt
  have q0 := u0.cell 0
  have q1 := u0.cell 1
  simp only [List.getElem?_toArray, List.getElem?_cons_zero, List.getElem?_cons_succ] at q0 q1
  go_upto_region 5 with (at_builtin; refine wpList_append_by rfl (.tmp 57) (.tmp 63) rfl rfl (v := .slice (some ⟨w4.heap.size, 0, none⟩) 0 0) (l := []) (m := l) OWN.out rfl HRB.out (by simp; omega) (by simp) ?_; intro L5 A5 c5 w5 HL5 own5 hg5 hat5)
  rw [List.nil_append] at HL5
  have hb5 : Below w4.heap.size w4 w5 := hla.trans (grown_belowP hg5 hla.size (fun g e => (OWN.out.lt g e).1))
  obtain rfl : L5 = l := HL5.out
  obtain ⟨gB, rfl, hgBb, hgBl5⟩ := own5.block (by omega)
  have row5 := row4.below hb5
  have hw5 := hw4.trans (hb5.mono hw4.size)
  have yq5 := yq.below hb5
  have u15 := u1.below hb5
  have hg3q : g3 ≠ qb := fun e => row4.ne_blk yq (by decide) (by rw [e]; rfl)
  have ROW := Lib.hid row5
  have OW5 := Lib.hid own5
  clear hg5 hat5 hb5 row4 row5 yq u1 u0 own5 OWN HRB hla q0 q1 c0
  go_wp2_with fail
  go_loopw [3, 12] (fun mv iv wr => ∃ (n mn : Nat) (B : List UInt8) (D : Bool), n ≤ 32 ∧ iv = .int .i64 (n : Int) ∧ mv = .int .u32 (mn : Int) ∧ Hid ((B, D) = flipI L5 bit mask n) ∧ Hid (mn = mask / 2 ^ n) ∧ B.length = L5.length ∧ OwB wr w4.heap.size (.slice (some ⟨gB, 0, none⟩) B.length c5) B ∧ Row wr w2.heap.size 62 3 (some ⟨g3, off3, none⟩) ls.length c3 ((ls.set k ⟨⟨pA, pc, L5⟩, false, D⟩).flatMap PV.cells) ∧ Fr (fun b => b = g3 ∨ b = gB) w5 wr) (fun _ iv _ => 32 - (intOf iv).toNat)
  case atStart => exact ⟨0, mask, L5, false, Nat.zero_le _, rfl, rfl, Lib.hid rfl, Lib.hid (by simp), rfl, OW5.out, by rw [HP.out, List.set_getElem_self]; exact ROW.out, Fr.refl _ _⟩
  case round =>
    obtain ⟨n, mn, B, D, hn32, rfl, rfl, hBD, hMN, hBl, hob, hrow, hfr⟩ := hrel
    have hkl : k < (ls.set k ⟨⟨pA, pc, L5⟩, false, D⟩).length := by rw [List.length_set]; exact hk
    have yr := yq5.fr hfr (by omega)
    have hq0 := yr.cell 0
    simp only [List.getElem?_toArray, List.getElem?_cons_zero] at hq0
    by_cases hlt : n < 32
    · have hlt2 : (n : Int) < 32 := by omega
      have hmnl : mn < 4294967296 := by rw [hMN.out]; exact Nat.lt_of_le_of_lt (Nat.div_le_self _ _) hm
      obtain ⟨mn2, hmn2⟩ : ∃ mn2, mn2 = mn / 2 := ⟨_, rfl⟩
      have hq1 : IntKind.u32.wrap ((mn : Int) / 2) = (mn2 : Int) := by
        rw [show ((mn : Int) / 2) = (mn2 : Int) by omega]
        simp [IntKind.wrap, IntKind.bits, IntKind.signed]
        omega
      have hq2 : IntKind.u32.wrap ((mn : Int).tdiv 2) = (mn2 : Int) := by
        rw [Int.tdiv_eq_ediv_of_nonneg (by omega)]; exact hq1
      have HM2 : Hid (mn2 = mask / 2 ^ (n + 1)) := Lib.hid (by rw [hmn2, hMN.out, Nat.div_div_eq_div_mul, Nat.pow_succ])
      clear hmn2
      obtain ⟨kb, hkb⟩ : ∃ kb, kb = bit + n := ⟨_, rfl⟩
      have hwa : IntKind.i64.wrap ((bit : Int) + (n : Int)) = (kb : Int) := by rw [IntKind.wrap_i64]; omega
      have HKB := Lib.hid hkb
      have hw8b : IntKind.i64.wrap (8 * (B.length : Int)) = 8 * (B.length : Int) := by rw [IntKind.wrap_i64]; omega
      clear hkb
      by_cases h1 : mn % 2 = 1
      · have hr1 : IntKind.u32.wrap ((mn : Int) % 2) = 1 := by rw [show ((mn : Int) % 2) = 1 by omega]; rfl
        have hr2 : IntKind.u32.wrap ((mn : Int).tmod 2) = 1 := by rw [Int.tmod_eq_emod_of_nonneg (by omega)]; exact hr1
        by_cases h2 : kb < 8 * B.length
        · have hlk : decide ((kb : Int) < 8 * (B.length : Int)) = true := decide_eq_true (by omega)
          have hki : kb / 8 < B.length := by omega
          have hgBl : gB < wr.heap.size := by have := hfr.size; omega
          have hcellb := hob.cellAt hki
          have hfz := hob.frozenAt (kb / 8)
          have hput := hob.put (kb / 8) (UInt8.ofNat ((B.getD (kb / 8) 0).toNat ^^^ 2 ^ (kb % 8)))
          have hget : B.getD (kb / 8) 0 = B[kb / 8] := by rw [List.getD_eq_getElem?_getD, List.getElem?_eq_getElem hki]; rfl
          have hT : Hid (turnB B kb = B.set (kb / 8) (UInt8.ofNat (B[kb / 8].toNat ^^^ 2 ^ (kb % 8)))) := by show _ = _; unfold turnB; rw [hget]
          rw [hget] at hput
          have hpw : 2 ^ (kb % 8) < 256 := by
            have : 2 ^ (kb % 8) ≤ 2 ^ 7 := Nat.pow_le_pow_right (by omega) (by omega)
            omega
          have hxor := xor_u8 B[kb / 8] (2 ^ (kb % 8)) hpw
          have HST : Hid (flipI L5 bit mask (n + 1) = (turnB B kb, true)) := Lib.hid (by
            rw [flipI_yes (by rw [← hMN.out]; exact h1) (by have := HKB.out; omega), ← hBD.out, HKB.out])
          generalize B[kb / 8] = x at *
          unfold bv at hcellb hput
          obtain ⟨q, hq⟩ : ∃ q : Nat, q = kb / 8 := ⟨_, rfl⟩
          obtain ⟨r, hr⟩ : ∃ r : Nat, r = kb % 8 := ⟨_, rfl⟩
          have hw1 : IntKind.i64.wrap ((kb : Int) / 8) = (q : Int) := by rw [IntKind.wrap_i64]; omega
          have hw1b : IntKind.i64.wrap ((kb : Int).tdiv 8) = (q : Int) := by rw [Int.tdiv_eq_ediv_of_nonneg (by omega)]; exact hw1
          have hw2' : IntKind.i64.wrap ((kb : Int) % 8) = (r : Int) := by rw [IntKind.wrap_i64]; omega
          have hw3' : IntKind.i64.wrap ((kb : Int).tmod 8) = (r : Int) := by rw [IntKind.wrap_i64, Int.tmod_eq_emod_of_nonneg (by omega)]; omega
          have hw4' : (kb : Int).tmod 8 = (r : Int) := by rw [Int.tmod_eq_emod_of_nonneg (by omega)]; omega
          have hr8 : r < 8 := by omega
          rw [← hq] at hki hcellb hfz hput hT hget
          rw [← hr] at hput hT hpw hxor
          obtain ⟨m, hm'⟩ : ∃ m : Nat, m = 2 ^ r := ⟨_, rfl⟩
          rw [← hm'] at hput hT hpw hxor
          have hsh : IntKind.u8.wrap ((2 : Int) ^ r) = (m : Int) := by
            have e : ((2 : Int) ^ r) = (m : Int) := by rw [hm']; simp
            rw [e]
            simp [IntKind.wrap, IntKind.bits, IntKind.signed]
            omega
          have hsh1 : IntKind.u8.wrap (1 * (2 : Int) ^ r) = (m : Int) := by rw [Int.one_mul]; exact hsh
          have hx3 : x.toNat ^^^ m % 256 = (UInt8.ofNat (x.toNat ^^^ m)).toNat := by
            rw [Nat.mod_eq_of_lt hpw, UInt8.toNat_ofNat', Nat.mod_eq_of_lt]
            exact Nat.xor_lt_two_pow (n := 8) x.toNat_lt hpw
          have hx4 : x.toNat ^^^ m = (UInt8.ofNat (x.toNat ^^^ m)).toNat := by
            rw [UInt8.toNat_ofNat', Nat.mod_eq_of_lt]
            exact Nat.xor_lt_two_pow (n := 8) x.toNat_lt hpw
          obtain ⟨vx, hvx⟩ : ∃ vx, vx = UInt8.ofNat (x.toNat ^^^ m) := ⟨_, rfl⟩
          rw [← hvx] at hx3 hx4 hT hxor hput
          have hki2 : q < L5.length := by omega
          have HROW := Lib.hid hrow
          have HOB := Lib.hid hob
          clear hq hr hm' hput hvx hget hfz hrow hob hBD
          go_wp2_with fail
          refine wp_region_line (.tell 0 (.tell 1 (.tell 2 (.tell 3 (.tell 4 (.tell 5 (.tell 6 (.tell 7 (.tell 8 (.tell 9 (.tell 10 (.tell 11 (.tell 12 (.tell 13 (.tell 14 (.tell 15 (.tell 16 (.tell 17 (.tell 18 .done))))))))))))))))))) (fun W => Below wr.heap.size wr W) (by kernel_rfl) (by kernel_rfl) ?_
          refine pl_val (by (simp only [List.getElem?_toArray, List.getElem?_cons_zero]; rfl)) (by kernel_rfl) ⟨_, (by (intro w' hC; clear hC; (try go_simp); (try with_reducible rfl); done)), _, (by (simp only [Act.put, List.setIfInBounds_toArray, List.set_cons_zero, List.set_cons_succ]; rfl)), ?_⟩
          refine pl_val (by (simp only [List.getElem?_toArray, List.getElem?_cons_succ, List.getElem?_cons_zero]; rfl)) (by kernel_rfl) ⟨_, (by (intro w' hC; clear hC; (try go_simp); (try with_reducible rfl); done)), _, (by (simp only [Act.put, List.setIfInBounds_toArray, List.set_cons_zero, List.set_cons_succ]; rfl)), ?_⟩
          refine pl_val (by (simp only [List.getElem?_toArray, List.getElem?_cons_succ, List.getElem?_cons_zero]; rfl)) (by kernel_rfl) ⟨_, (by (intro w' hC; clear hC; (try go_simp); (try with_reducible rfl); done)), _, (by (simp only [Act.put, List.setIfInBounds_toArray, List.set_cons_zero, List.set_cons_succ]; rfl)), ?_⟩
          refine pl_val (by (simp only [List.getElem?_toArray, List.getElem?_cons_succ, List.getElem?_cons_zero]; rfl)) (by kernel_rfl) ⟨_, (by (intro w' hC; clear hC; (try go_simp); (try with_reducible rfl); done)), _, (by (simp only [Act.put, List.setIfInBounds_toArray, List.set_cons_zero, List.set_cons_succ]; rfl)), ?_⟩
          refine pl_val (by (simp only [List.getElem?_toArray, List.getElem?_cons_succ, List.getElem?_cons_zero]; rfl)) (by kernel_rfl) ⟨_, (by (intro w' hC; clear hC; (try go_simp); (try with_reducible rfl); done)), _, (by (simp only [Act.put, List.setIfInBounds_toArray, List.set_cons_zero, List.set_cons_succ]; rfl)), ?_⟩
          refine pl_val (by (simp only [List.getElem?_toArray, List.getElem?_cons_succ, List.getElem?_cons_zero]; rfl)) (by kernel_rfl) ⟨_, (by (intro w' hC; clear hC; (try go_simp); (try with_reducible rfl); done)), _, (by (simp only [Act.put, List.setIfInBounds_toArray, List.set_cons_zero, List.set_cons_succ]; rfl)), ?_⟩
          refine pl_val (by (simp only [List.getElem?_toArray, List.getElem?_cons_succ, List.getElem?_cons_zero]; rfl)) (by kernel_rfl) ⟨_, (by (intro w' hC; clear hC; (try go_simp); (try with_reducible rfl); done)), _, (by (simp only [Act.put, List.setIfInBounds_toArray, List.set_cons_zero, List.set_cons_succ]; rfl)), ?_⟩
          refine pl_val (by (simp only [List.getElem?_toArray, List.getElem?_cons_succ, List.getElem?_cons_zero]; rfl)) (by kernel_rfl) ⟨_, (by (intro w' hC; clear hC; (try go_simp); (try with_reducible rfl); done)), _, (by (simp only [Act.put, List.setIfInBounds_toArray, List.set_cons_zero, List.set_cons_succ]; rfl)), ?_⟩
          refine pl_val (by (simp only [List.getElem?_toArray, List.getElem?_cons_succ, List.getElem?_cons_zero]; rfl)) (by kernel_rfl) ⟨_, (by (intro w' hC; clear hC; (try go_simp); (try with_reducible rfl); done)), _, (by (simp only [Act.put, List.setIfInBounds_toArray, List.set_cons_zero, List.set_cons_succ]; rfl)), ?_⟩
          refine pl_val (by (simp only [List.getElem?_toArray, List.getElem?_cons_succ, List.getElem?_cons_zero]; rfl)) (by kernel_rfl) ⟨_, (by (intro w' hC; clear hC; (try go_simp); (try with_reducible rfl); done)), _, (by (simp only [Act.put, List.setIfInBounds_toArray, List.set_cons_zero, List.set_cons_succ]; rfl)), ?_⟩
          refine pl_val (by (simp only [List.getElem?_toArray, List.getElem?_cons_succ, List.getElem?_cons_zero]; rfl)) (by kernel_rfl) ⟨_, (by (intro w' hC; clear hC; (try go_simp); (try with_reducible rfl); done)), _, (by (simp only [Act.put, List.setIfInBounds_toArray, List.set_cons_zero, List.set_cons_succ]; rfl)), ?_⟩
          refine pl_val (by (simp only [List.getElem?_toArray, List.getElem?_cons_succ, List.getElem?_cons_zero]; rfl)) (by kernel_rfl) ⟨_, (by (intro w' hC; have q := cellAt hC hgBl hcellb; clear hC; (try go_simp); (try with_reducible rfl); done)), _, (by (simp only [Act.put, List.setIfInBounds_toArray, List.set_cons_zero, List.set_cons_succ]; rfl)), ?_⟩
          refine pl_val (by (simp only [List.getElem?_toArray, List.getElem?_cons_succ, List.getElem?_cons_zero]; rfl)) (by kernel_rfl) ⟨_, (by (intro w' hC; clear hC; (try go_simp); (try with_reducible rfl); done)), _, (by (simp only [Act.put, List.setIfInBounds_toArray, List.set_cons_zero, List.set_cons_succ]; rfl)), ?_⟩
          refine pl_val (by (simp only [List.getElem?_toArray, List.getElem?_cons_succ, List.getElem?_cons_zero]; rfl)) (by kernel_rfl) ⟨_, (by (intro w' hC; clear hC; (try go_simp); (try with_reducible rfl); done)), _, (by (simp only [Act.put, List.setIfInBounds_toArray, List.set_cons_zero, List.set_cons_succ]; rfl)), ?_⟩
          refine pl_val (by (simp only [List.getElem?_toArray, List.getElem?_cons_succ, List.getElem?_cons_zero]; rfl)) (by kernel_rfl) ⟨_, (by (intro w' hC; clear hC; (try go_simp); (try with_reducible rfl); done)), _, (by (simp only [Act.put, List.setIfInBounds_toArray, List.set_cons_zero, List.set_cons_succ]; rfl)), ?_⟩
          refine pl_val (by (simp only [List.getElem?_toArray, List.getElem?_cons_succ, List.getElem?_cons_zero]; rfl)) (by kernel_rfl) ⟨_, (by (intro w' hC; clear hC; (try go_simp); (try with_reducible rfl); done)), _, (by (simp only [Act.put, List.setIfInBounds_toArray, List.set_cons_zero, List.set_cons_succ]; rfl)), ?_⟩
          refine pl_val (by (simp only [List.getElem?_toArray, List.getElem?_cons_succ, List.getElem?_cons_zero]; rfl)) (by kernel_rfl) ⟨_, (by (intro w' hC; clear hC; (try go_simp); (try with_reducible rfl); done)), _, (by (simp only [Act.put, List.setIfInBounds_toArray, List.set_cons_zero, List.set_cons_succ]; rfl)), ?_⟩
          refine pl_val (by (simp only [List.getElem?_toArray, List.getElem?_cons_succ, List.getElem?_cons_zero]; rfl)) (by kernel_rfl) ⟨_, (by (intro w' hC; clear hC; (try go_simp); (try with_reducible rfl); done)), _, (by (simp only [Act.put, List.setIfInBounds_toArray, List.set_cons_zero, List.set_cons_succ]; rfl)), ?_⟩
          refine pl_val (by (simp only [List.getElem?_toArray, List.getElem?_cons_succ, List.getElem?_cons_zero]; rfl)) (by kernel_rfl) ⟨_, (by (intro w' hC; clear hC; (try go_simp); (try with_reducible rfl); done)), _, (by (simp only [Act.put, List.setIfInBounds_toArray, List.set_cons_zero, List.set_cons_succ]; rfl)), ?_⟩
          have hB : Below wr.heap.size wr wr.drew := (Below.refl _ _).drew
          refine pl_end hB ?_
          simp only [Plan.count, Nat.reduceAdd, List.drop_succ_cons, List.drop_zero]
          have ob6 := HOB.out.below hB
          have row6 := HROW.out.below hB
          have f6 := hfr.then_below hB
          have bq6 := yr.below hB
          have cb6 := cellAt hB hgBl hcellb
          generalize wr.drew = w6 at *
          have fz6 := ob6.frozenAt q
          have hput := ob6.put q vx
          rw [← hT.out] at hput
          unfold bv at hput
          have f7 : Fr (fun b => b = gB) w6 (w6.setCell ⟨gB, q, none⟩ (.int .u8 (vx.toNat : Int))) := (Fr.refl (fun b => b = gB) w6).setAt gB q rfl _
          have row7 := row6.fr f7 (fun k hk e => by injection hk with hk; have hk' : g3 = k := hk; omega)
          have bq7 := bq6.fr f7 (by omega)
          have fr7 := f6.trans f7 (fun _ _ e => .inr e)
          have HPUT := Lib.hid hput
          clear hput HOB HROW hcellb hq0 hB
          go_upto_region 10 with (fail)
          clear cb6 fz6
          generalize w6.setCell ⟨gB, q, none⟩ (.int .u8 (vx.toNat : Int)) = w7 at *
          obtain ⟨y0, y1, y2⟩ := parE_cell row7 hkl
          have fz := row7.frozen (off3 + k * 3 + 2)
          have hq7 := bq7.cell 0
          simp only [List.getElem?_toArray, List.getElem?_cons_zero] at hq7
          have row8 := parE_dam row7 hkl
          rw [List.set_set, List.getElem_set_self] at row8
          have kf : Fr (fun b => b = g3) w7 (w7.setCell ⟨g3, off3 + k * 3 + 2, none⟩ (.bool true)) := (Fr.refl (fun b => b = g3) w7).setAt g3 _ rfl _
          have ob8 := HPUT.out.fr kf (fun b hb e => by have := own_blk HPUT.out b hb; omega)
          have fr8 := fr7.trans kf (fun _ _ e => .inl e)
          have HR8 := Lib.hid row8
          have HO8 := Lib.hid ob8
          clear row8 ob8 kf HPUT row7 row6 ob6 f6 f7 fr7 bq6 yr hfr
          go_wp2_with fail
          go_roundw
          case rel => exact ⟨n + 1, mn2, turnB B kb, true, hlt, by go_num, rfl, Lib.hid HST.out.symm, HM2, by first | exact hBl | (rw [turnB_len]; exact hBl), HO8.out, HR8.out, fr8⟩
          case measure => simp [intOf]; omega
        · have hlk : decide ((kb : Int) < 8 * (B.length : Int)) = false := decide_eq_false (by omega)
          have HST : Hid (flipI L5 bit mask (n + 1) = (B, D)) := Lib.hid (by
            rw [flipI_no (by have := HKB.out; omega), ← hBD.out])
          have HR := Lib.hid hrow
          have HO := Lib.hid hob
          clear hob hrow hBD
          go_wp2_with fail
          go_roundw
          case rel => exact ⟨n + 1, mn2, B, D, hlt, by go_num, rfl, Lib.hid HST.out.symm, HM2, by first | exact hBl | (rw [turnB_len]; exact hBl), HO.out, HR.out, hfr⟩
          case measure => simp [intOf]; omega
      · have hr1 : IntKind.u32.wrap ((mn : Int) % 2) = 0 := by rw [show ((mn : Int) % 2) = 0 by omega]; rfl
        have hr2 : IntKind.u32.wrap ((mn : Int).tmod 2) = 0 := by rw [Int.tmod_eq_emod_of_nonneg (by omega)]; exact hr1
        have HST : Hid (flipI L5 bit mask (n + 1) = (B, D)) := Lib.hid (by
          rw [flipI_no (by rw [← hMN.out]; exact fun e => h1 e.1), ← hBD.out])
        have HR := Lib.hid hrow
        have HO := Lib.hid hob
        clear hob hrow hBD
        go_wp2_with fail
        go_roundw
        case rel => exact ⟨n + 1, mn2, B, D, hlt, by go_num, rfl, Lib.hid HST.out.symm, HM2, by first | exact hBl | (rw [turnB_len]; exact hBl), HO.out, HR.out, hfr⟩
        case measure => simp [intOf]; omega
    · have hnN : n = 32 := by omega
      have HFE : Hid (F = (B, D)) := Lib.hid (by rw [HF.out]; unfold flipB; rw [← hnN, ← hBD.out])
      obtain ⟨y0, y1, y2⟩ := parE_cell hrow hkl
      rw [List.getElem_set_self] at y0 y1 y2
      dsimp only at y0 y1 y2
      have fz := hrow.frozen (off3 + k * 3)
      have row6 := parE_x hrow hkl ⟨(some ⟨gB, 0, none⟩), c5, B⟩
      rw [List.set_set, List.getElem_set_self] at row6
      dsimp only at row6
      rw [hBl] at row6
      have kf : Fr (fun b => b = g3) wr (wr.setCell ⟨g3, off3 + k * 3, none⟩ (.slice (some ⟨gB, 0, none⟩) L5.length c5)) := (Fr.refl (fun b => b = g3) wr).setAt g3 _ rfl _
      have ob6 := hob.fr kf (fun b hb e => by have := own_blk hob b hb; omega)
      have bq6 := yr.fr kf (fun e => hg3q e.symm)
      have fr6 := hfr.trans kf (fun _ _ e => .inl e)
      have h32 : ¬ (n : Int) < 32 := by omega
      clear hBD hMN hnN
      go_upto_region 13 with (fail)
      clear y0 y1 y2 fz hq0 hrow hob
      generalize wr.setCell ⟨g3, off3 + k * 3, none⟩ (.slice (some ⟨gB, 0, none⟩) L5.length c5) = w6 at *
      have hkl6 : k < (ls.set k ⟨⟨(some ⟨gB, 0, none⟩), c5, B⟩, false, D⟩).length := by rw [List.length_set]; exact hk
      obtain ⟨z0, z1, z2⟩ := parE_cell row6 hkl6
      rw [List.getElem_set_self] at z0 z1 z2
      dsimp only at z0 z1 z2
      have g36 : g3 < w6.heap.size := by have := fr6.size; have := hw5.size; have h9 := (row6.lt g3 rfl).2; exact h9
      have u16 := u15.fr fr6 (by omega)
      have hC0 : Fr (fun x => x = w.heap.size + 1) w6 w6.drew := (Fr.refl _ w6).drew
      refine wp_region_line (.tell 0 (.tell 1 (.tell 2 (.tell 3 (.tell 4 (.tell 5 (.tell 6 (.one 7 .done)))))))) (fun W => Fr (fun x => x = w.heap.size + 1) w6 W) (by kernel_rfl) (by kernel_rfl) ?_
      refine pl_val (by (simp only [List.getElem?_toArray, List.getElem?_cons_zero]; rfl)) (by kernel_rfl) ⟨_, (by (intro w' hC; have q := (bq6.fr hC (by omega)).cell 0; have q9 := (bq6.fr hC (by omega)).cell 1; simp only [List.getElem?_toArray, List.getElem?_cons_zero, List.getElem?_cons_succ] at q q9; clear hC; (try go_simp); (try with_reducible rfl); done)), _, (by (simp only [Act.put, List.setIfInBounds_toArray, List.set_cons_zero, List.set_cons_succ]; rfl)), ?_⟩
      refine pl_val (by (simp only [List.getElem?_toArray, List.getElem?_cons_succ, List.getElem?_cons_zero]; rfl)) (by kernel_rfl) ⟨_, (by (intro w' hC; clear hC; (try go_simp); (try with_reducible rfl); done)), _, (by (simp only [Act.put, List.setIfInBounds_toArray, List.set_cons_zero, List.set_cons_succ]; rfl)), ?_⟩
      refine pl_val (by (simp only [List.getElem?_toArray, List.getElem?_cons_succ, List.getElem?_cons_zero]; rfl)) (by kernel_rfl) ⟨_, (by (intro w' hC; have q := (bq6.fr hC (by omega)).cell 0; simp only [List.getElem?_toArray, List.getElem?_cons_zero] at q; clear hC; (try go_simp); (try with_reducible rfl); done)), _, (by (simp only [Act.put, List.setIfInBounds_toArray, List.set_cons_zero, List.set_cons_succ]; rfl)), ?_⟩
      refine pl_val (by (simp only [List.getElem?_toArray, List.getElem?_cons_succ, List.getElem?_cons_zero]; rfl)) (by kernel_rfl) ⟨_, (by (intro w' hC; clear hC; (try go_simp); (try with_reducible rfl); done)), _, (by (simp only [Act.put, List.setIfInBounds_toArray, List.set_cons_zero, List.set_cons_succ]; rfl)), ?_⟩
      refine pl_val (by (simp only [List.getElem?_toArray, List.getElem?_cons_succ, List.getElem?_cons_zero]; rfl)) (by kernel_rfl) ⟨_, (by (intro w' hC; clear hC; (try go_simp); (try with_reducible rfl); done)), _, (by (simp only [Act.put, List.setIfInBounds_toArray, List.set_cons_zero, List.set_cons_succ]; rfl)), ?_⟩
      refine pl_val (by (simp only [List.getElem?_toArray, List.getElem?_cons_succ, List.getElem?_cons_zero]; rfl)) (by kernel_rfl) ⟨_, (by (intro w' hC; clear hC; (try go_simp); (try with_reducible rfl); done)), _, (by (simp only [Act.put, List.setIfInBounds_toArray, List.set_cons_zero, List.set_cons_succ]; rfl)), ?_⟩
      refine pl_val (by (simp only [List.getElem?_toArray, List.getElem?_cons_succ, List.getElem?_cons_zero]; rfl)) (by kernel_rfl) ⟨_, (by (intro w' hC; have r := (hC.cell (p := ⟨g3, off3 + k * 3 + 2, none⟩) g36 (by show ¬ g3 = _; omega)).trans z2; clear hC; (try go_simp); (try with_reducible rfl); done)), _, (by (simp only [Act.put, List.setIfInBounds_toArray, List.set_cons_zero, List.set_cons_succ]; rfl)), ?_⟩
      have hB : Below w6.heap.size w6 w6.drew := (Below.refl _ _).drew
      have fr7 := fr6.then_below hB
      have row7 := row6.below hB
      have ob7 := ob6.below hB
      have u17 := u16.below hB
      generalize w6.drew = w7 at *
      have r0 := u17.cell 0
      have r1 := u17.cell 1
      simp only [List.getElem?_toArray, List.getElem?_cons_zero, List.getElem?_cons_succ] at r0 r1
      have fr := fun o => u17.frozen o
      have hw7 : Below w.heap.size w w7 := hw5.trans (fr7.below (B := w.heap.size) hw5.size (fun k hk e => by omega))
      have HR7 := Lib.hid row7
      have HO7 := Lib.hid ob7
      clear hB z0 z1 z2 row6 row7 ob6 ob7 bq6 fr6 kf yr hfr hBl
      refine pl_one (by (simp only [List.getElem?_toArray, List.getElem?_cons_succ, List.getElem?_cons_zero]; rfl)) hC0 ?_
      refine al_skip (by kernel_rfl) ⟨_, (by (go_simp; first | done | rfl)), _, (by (simp only [Act.put]; rfl)), ?_⟩
      refine pl_end ((hC0.setAt (w.heap.size + 1) 0 rfl _).setAt (w.heap.size + 1) 1 rfl _) ?_
      simp only [Plan.count, Nat.reduceAdd, List.drop_succ_cons, List.drop_zero]
      clear hC0
      go_wp2_with fail
      have kR : Fr (fun x => x = w.heap.size + 1) w7 ((w7.setCell ⟨w.heap.size + 1, 0, none⟩ (.slice (some ⟨g3, off3, none⟩) ls.length c3)).setCell ⟨w.heap.size + 1, 1, none⟩ (.bool cl)) := (((Fr.refl (fun x => x = w.heap.size + 1) w7).setAt (w.heap.size + 1) _ rfl _).setAt (w.heap.size + 1) _ rfl _)
      have yR := ((u17.set_ 0 (.slice (some ⟨g3, off3, none⟩) ls.length c3)).set_ 1 (.bool cl))
      simp only [List.setIfInBounds_toArray, List.set_cons_zero, List.set_cons_succ] at yR
      have hwR : Below w.heap.size w ((w7.setCell ⟨w.heap.size + 1, 0, none⟩ (.slice (some ⟨g3, off3, none⟩) ls.length c3)).setCell ⟨w.heap.size + 1, 1, none⟩ (.bool cl)) := hw7.trans (kR.below (B := w.heap.size) hw7.size (fun k hk e => by omega))
      generalize ((w7.setCell ⟨w.heap.size + 1, 0, none⟩ (.slice (some ⟨g3, off3, none⟩) ls.length c3)).setCell ⟨w.heap.size + 1, 1, none⟩ (.bool cl)) = wR at *
      have s0 := yR.cell 0
      have s1 := yR.cell 1
      simp only [List.getElem?_toArray, List.getElem?_cons_zero, List.getElem?_cons_succ] at s0 s1
      refine bodyPost_ret (v := .tuple #[.agg #[.slice (some ⟨g3, off3, none⟩) ls.length c3, .bool cl], .bool D]) (by simp [results, Try.results18, go_sem, s0, s1]) rfl ?_
      have hrR := HR7.out.fr kR (fun g hg e => by injection hg with hg; have hg' : g3 = g := hg; omega)
      have hoR := HO7.out.fr kR (fun g hg e => by have := own_blk HO7.out g hg; omega)
      obtain ⟨px, hpx⟩ : ∃ px : PV, px = ⟨⟨(some ⟨gB, 0, none⟩), c5, B⟩, false, D⟩ := ⟨_, rfl⟩
      rw [← hpx] at hrR
      refine ⟨some ⟨g3, off3, none⟩, c3, ls.set k px, by rw [List.length_set, HFE.out], RefP.of_row (base := w2.heap.size) (by unfold ParsR; rw [List.length_set]; exact hrR) (fun b hb => hZ b (by omega)) ?_, Lib.hid ?_, hwR⟩
      · intro p hp
        rcases List.mem_or_eq_of_mem_set hp with hp | rfl
        · exact (HH.out.ok p hp).below hwR
        · rw [hpx]
          have r := Row.of_own hoR
          exact ⟨hoR.rd.mono (fun b _ hb => hZ b (by have := (r.lt b hb).1; omega)), r.room, r.cap⟩
      · rw [List.map_set, HFE.out, hpx]; rfl

end Go.Proofs.Yticfjnjeoikalaa

/- tenderlaw16: its calls as values; light. -/
namespace Go.Proofs.Yticfjnjeoikalaa
open Go.RowKit

/-- tenderlaw16.Op -/
structure OpP where
  kind : Int
  n : Int
  bit : Int
  mask : Int
  x : BV
def OpP.cells (o : OpP) : List Value := [.int .i64 o.kind, .int .i64 o.n, .int .i64 o.bit, .int .u32 o.mask, .slice o.x.A o.x.l.length o.x.c]
structure OpP.ok (w : World) (Z : Nat → Prop) (o : OpP) : Prop where
  k : -9223372036854775808 ≤ o.kind ∧ o.kind < 9223372036854775808
  n : -9223372036854775808 ≤ o.n ∧ o.n < 9223372036854775808
  b : -9223372036854775808 ≤ o.bit ∧ o.bit < 9223372036854775808
  m : 0 ≤ o.mask ∧ o.mask < 4294967296
  x : o.x.ok w Z
  len : o.x.l.length ≤ 140737488355328
/-- A slice of them. -/
structure OpsP (w : World) (Z : Nat → Prop) (A : Option Addr) (l : List OpP) : Prop where
  rd : Rd w Z 5 A l.length (l.flatMap OpP.cells)
  ok : ∀ o ∈ l, o.ok w Z
  len : l.length ≤ 4398046511104
theorem OpsP.fr {w w' : World} {Z S : Nat → Prop} {A : Option Addr} {l : List OpP} (h : OpsP w Z A l) (k : Fr S w w') (hs : ∀ b, b < w.heap.size → Z b → ¬ S b) : OpsP w' Z A l :=
  ⟨h.rd.fr k hs, fun o ho => ⟨(h.ok o ho).k, (h.ok o ho).n, (h.ok o ho).b, (h.ok o ho).m, (h.ok o ho).x.fr k hs, (h.ok o ho).len⟩, h.len⟩
theorem OpsP.below {w w' : World} {Z : Nat → Prop} {A : Option Addr} {l : List OpP} (h : OpsP w Z A l) (k : Below w.heap.size w w') : OpsP w' Z A l := h.fr (Fr.of_below k (fun _ => False)) (fun _ _ _ h => h)
theorem OpsP.at_ {w : World} {Z : Nat → Prop} {A : Option Addr} {l : List OpP} {i : Nat} (h : OpsP w Z A l) (hi : i < l.length) :
    ∃ b off, A = some ⟨b, off, none⟩ ∧ Z b ∧ b < w.heap.size ∧ w.cell? ⟨b, off + i * 5, none⟩ = some (.int .i64 l[i].kind) ∧ w.cell? ⟨b, off + i * 5 + 1, none⟩ = some (.int .i64 l[i].n) ∧
      w.cell? ⟨b, off + i * 5 + 2, none⟩ = some (.int .i64 l[i].bit) ∧ w.cell? ⟨b, off + i * 5 + 3, none⟩ = some (.int .u32 l[i].mask) ∧ w.cell? ⟨b, off + i * 5 + 4, none⟩ = some (.slice l[i].x.A l[i].x.l.length l[i].x.c) := by
  obtain ⟨b, off, hA, hz, hb, hc⟩ := h.rd.2 (by omega)
  have hg : ∀ j, j < 5 → (l.flatMap OpP.cells)[i * 5 + j]? = (OpP.cells l[i])[j]? := fun j hj => flat_get (k := 5) (fun _ => rfl) l i j hi hj
  refine ⟨b, off, hA, hz, hb, ?_, ?_, ?_, ?_, ?_⟩
  · exact hc _ _ (hg 0 (by omega))
  · rw [Nat.add_assoc]; exact hc _ _ (hg 1 (by omega))
  · rw [Nat.add_assoc]; exact hc _ _ (hg 2 (by omega))
  · rw [Nat.add_assoc]; exact hc _ _ (hg 3 (by omega))
  · rw [Nat.add_assoc]; exact hc _ _ (hg 4 (by omega))
def lensP (l : List OpP) : Nat := (l.map fun o => o.x.l.length).sum
def lightP (l : List OpP) : Bool := decide (l.length ≤ 200) && decide (lensP l ≤ 10000)
theorem lensP_take (l : List OpP) (i : Nat) (hi : i < l.length) : lensP (l.take (i + 1)) = lensP (l.take i) + l[i].x.l.length := by
  unfold lensP
  rw [List.take_succ_eq_append_getElem hi, List.map_append, List.sum_append]
  simp
theorem lensP_le (K : Nat) : ∀ (l : List OpP), (∀ o ∈ l, o.x.l.length ≤ K) → lensP l ≤ l.length * K
  | [], _ => by simp [lensP]
  | o :: l, h => by
    have h1 := h o (by simp)
    have h2 := lensP_le K l (fun o ho => h o (by simp [ho]))
    simp only [lensP, List.map_cons, List.sum_cons, List.length_cons, Nat.add_mul] at h2 ⊢
    omega
theorem lensP_take_le (K : Nat) (l : List OpP) (i : Nat) (h : ∀ o ∈ l, o.x.l.length ≤ K) : lensP (l.take i) ≤ i * K := by
  have h1 := lensP_le K (l.take i) (fun o ho => h o (List.mem_of_mem_take ho))
  have h2 : (l.take i).length ≤ i := List.length_take_le _ _
  have h3 : (l.take i).length * K ≤ i * K := Nat.mul_le_mul_right _ h2
  omega
def SeenP (l : List OpP) (i : Nat) (s : Int) : Prop := i ≤ 200 → s = (lensP (l.take i) : Int)
theorem seenP_step {l : List OpP} {i : Nat} {s : Int} (hs : SeenP l i s) (hi : i < l.length) (h : ∀ o ∈ l, o.x.l.length ≤ 140737488355328) : SeenP l (i + 1) (wrap64 (s + (l[i].x.l.length : Int))) := by
  intro hi2
  have e := hs (by omega)
  have h1 := lensP_take_le 140737488355328 l (i + 1) h
  have h2 := lensP_take l i hi
  have h3 : (i + 1) * 140737488355328 ≤ 201 * 140737488355328 := Nat.mul_le_mul_right _ (by omega)
  rw [h2] at h1 ⊢
  rw [e, IntWalk.wrap64_in _ ⟨by omega, by omega⟩]
  omega

set_option maxHeartbeats 400000 in
theorem light16_any (A : Option Addr) (c : Nat) (l : List OpP) (Z : Nat → Prop) (w : World) (h : OpsP w Z A l) :
    Calls Try.prog 4 #[.slice A l.length c] w fun e w' => e = .returned (.bool (lightP l)) ∧ Below w.heap.size w w' := by
  have hlen := h.len
  go_enter Try.func4, Try.ntmps4
  go_wp2_with fail
  go_loopw [3, 8] (fun sv iv wr => ∃ (i : Nat) (s : Int), i ≤ l.length ∧ iv = .int .i64 (i : Int) ∧ sv = .int .i64 s ∧ SeenP l i s ∧ Below w.heap.size w wr) (fun _ iv _ => l.length - (intOf iv).toNat)
  case atStart => exact ⟨0, 0, Nat.zero_le _, rfl, rfl, by intro _; simp [lensP], Below.refl _ _⟩
  case round =>
    obtain ⟨i, s, hi, rfl, rfl, hs, hb⟩ := hrel
    by_cases hlt : i < l.length
    · obtain ⟨b, off, rfl, hz, hbb, hc0, hc1, hc2, hc3, hc4⟩ := (h.below hb).at_ hlt
      have hsz := hb.size
      have hok := h.ok _ (List.getElem_mem hlt)
      have hxl := hok.len
      go_wp2_with fail
      go_roundw
      case rel =>
        refine ⟨i + 1, _, hlt, by go_num, rfl, ?_, (hb.alloc hsz _)⟩
        exact seenP_step hs hlt (fun o ho => (h.ok o ho).len)
      case measure => simp [intOf]; omega
    · have e : i = l.length := by omega
      subst e
      by_cases h2 : l.length ≤ 200
      · have hss := hs h2
        rw [List.take_length] at hss
        subst hss
        go_wp2
        all_goals
          go_ret
          exact ⟨ret_b (by unfold lightP; rw [Bool.eq_iff_iff]; simp; omega), hb⟩
      · go_wp2
        all_goals
          go_ret
          exact ⟨ret_b (by unfold lightP; rw [Bool.eq_iff_iff]; simp; omega), hb⟩
end Go.Proofs.Yticfjnjeoikalaa

/- pipe.Send, at, Drop. -/
namespace Go.Proofs.Yticfjnjeoikalaa
open Go.RowKit

set_option maxHeartbeats 400000 in
theorem pipeSend_any (base pb : Nat) (X : Nat → Prop) (A : Option Addr) (c : Nat) (ls : List PV) (cl : Bool) (w : World) (h : PipeAt w base pb X A c ls cl) (B : Option Addr) (d : Nat) (l : List UInt8) (Z : Nat → Prop) (hy : By w Z B l)
    (hX : ∀ b, X b → b < w.heap.size) (hbase : base ≤ w.heap.size) (hn : ls.length ≤ 1099511627776) (hl : l.length ≤ 140737488355328) :
    Calls Try.prog 9 #[.pointer (some ⟨pb, 0, none⟩), .slice B l.length d] w fun e w' => e = .returned (.bool (!cl && decide (0 < l.length))) ∧ PipeTo w base pb X A (if cl = false ∧ 0 < l.length then ls.map PV.s ++ [(l, false, false)] else ls.map PV.s) cl w' := by
  have c0 := h.c0
  have f0 := h.f0
  by_cases hc : cl = false
  · by_cases h0 : 0 < l.length
    · rw [if_pos ⟨hc, h0⟩]
      subst hc
      have e1 := Lib.hid (show (!false && decide (0 < l.length)) = true by simp [h0])
      go_enter Try.func9, Try.ntmps9
      go_wp2_with fail
      refine (pipeClosed_any base pb X A c ls false w h).mono ?_
      rintro e w1 ⟨rfl, rfl⟩
      go_wp2_with fail
      obtain ⟨i0, hi0, hz0, hz1, hz2⟩ := info_parts par_info
      have Hn := Lib.hid hn
      go_region_law
        (first
        | (go_simp; go_at_call 26; refine (clone_any B d l Z _ hy.drew hl).mono ?_; rintro e w1 ⟨A1, c1, l1, rfl, hl1, ho1, hb1⟩; have hp1 := (h.below (Below.refl _ _).drew).below hb1; have c01 := hp1.c0; have f01 := hp1.f0; have c01a : (w1.alloc (.cells #[.slice A1 l1.length c1, .bool false, .bool false] 56)).cell? ⟨pb, 0, none⟩ = some (.slice A ls.length c) := (hp1.blk.alloc _).cell 0; go_wp2_with fail)
        | (refine step_append_row _ rfl (.tmp 16) (.tmp 20) 41 rfl base 56 i0 _ 3 32 Try.underlying41 hi0 hz0 hz1 hz2 rfl (by omega) rfl (hp1.row.alloc _) rfl (Rd.lit (xs := [.slice A1 l1.length c1, .bool false, .bool false]) (n := 1) rfl rfl (by simp)) (by simp [Value.oneCell']) (by simp only [maxLen]; omega) (by omega) (by simp; have := hb1.size; simp at this; omega) ?_; intro A2 c2 w2 hrow2 hg2 hat2; have hb2 := (hp1.blk.alloc _).grown hg2 hp1.ne; have c02 : w2.cell? ⟨pb, 0, none⟩ = some (.slice A ls.length c) := hb2.cell 0; have f02 := hb2.frozen 0))
      all_goals
        have hk1 : Below w.heap.size w w1 := ((Below.refl _ _).drew).trans hb1
        have hrow : Pars w2 base A2 c2 (ls ++ [⟨⟨A1, c1, l1⟩, false, false⟩]) := by
          unfold Pars
          rw [List.length_append, List.flatMap_append]
          exact hrow2
        have hpt := PipeTo.stored (ls2 := ls ++ [⟨⟨A1, c1, l1⟩, false, false⟩]) h (hk1.alloc hk1.size _) hrow hg2 hat2 ?_ ?_
        · rw [List.length_append, List.map_append] at hpt
          go_wp2_with fail
          go_ret
          refine ⟨by rw [e1.out]; rfl, ?_⟩
          have : PV.s ⟨⟨A1, c1, l1⟩, false, false⟩ = (l, false, false) := by unfold PV.s; rw [hl1.out]
          rw [List.map_cons, List.map_nil, this] at hpt
          exact hpt
        · intro p hp
          rcases List.mem_append.1 hp with hp | hp
          · exact ((h.ok p hp).below hk1).below ((Below.refl _ _).alloc (Nat.le_refl _) _)
          · obtain rfl := List.mem_singleton.1 hp
            obtain ⟨A1', c1', e2, q1, q2, q3⟩ := ho1.form
            obtain ⟨rfl, rfl⟩ : A1 = A1' ∧ c1 = c1' := by simpa using e2
            have hpb := h.blk.lt
            refine BV.ok.below (w := w1) ⟨ho1.rd.mono (fun b _ hb => ?_), q1, q2⟩ ((Below.refl _ _).alloc (Nat.le_refl _) _)
            have q4 : w.heap.size ≤ b := (q3 b hb).1
            exact ⟨by omega, fun e => by have := (h.row.lt b e).2; omega, fun e => by have := hX b e; omega⟩
        · intro p hp
          rcases List.mem_append.1 hp with hp | hp
          · exact h.full p hp
          · obtain rfl := List.mem_singleton.1 hp
            show 0 < l1.length
            rw [hl1.out]; exact h0
    · rw [if_neg (fun hh => h0 hh.2)]
      have hl0 : l.length = 0 := by omega
      have e1 := Lib.hid (show (!cl && decide (0 < l.length)) = false by simp [h0])
      have hl1 : ((l.length : Int) == 0) = true := by rw [beq_iff_eq]; omega
      subst hc
      clear h0 hl0
      go_enter Try.func9, Try.ntmps9
      go_wp2_with fail
      refine (pipeClosed_any base pb X A c ls false w h).mono ?_
      rintro e w1 ⟨rfl, rfl⟩
      go_wp2_with fail
      go_ret
      exact ⟨by rw [e1.out]; rfl, h.to⟩
  · rw [if_neg (fun hh => hc hh.1)]
    obtain rfl : cl = true := by cases cl <;> simp at hc ⊢
    have e1 := Lib.hid (show (!true && decide (0 < l.length)) = false by simp)
    go_enter Try.func9, Try.ntmps9
    go_wp2_with fail
    refine (pipeClosed_any base pb X A c ls true w h).mono ?_
    rintro e w1 ⟨rfl, rfl⟩
    go_wp2_with fail
    go_ret
    exact ⟨by rw [e1.out]; rfl, h.to⟩
end Go.Proofs.Yticfjnjeoikalaa

/- The bytes of numbers and texts, as plain lists. -/
namespace Go.Proofs.Yticfjnjeoikalaa
open Go.RowKit

end Go.Proofs.Yticfjnjeoikalaa

/- tenderref01: Num, Text, Same. -/
namespace Go.Proofs.Yticfjnjeoikalaa
open Go.RowKit

set_option maxHeartbeats 400000 in
theorem refSame_any (A B : Option Addr) (c d : Nat) (l m : List UInt8) (Z Z' : Nat → Prop) (w : World) (hl : By w Z A l) (hm : By w Z' B m) :
    Calls Try.prog 16 #[.slice A l.length c, .slice B m.length d] w fun e w' => e = .returned (.bool (l == m)) ∧ w = w' := by
  have k1 := conv_by hl c
  have k2 := conv_by hm d
  go_enter Try.func16, Try.ntmps16
  go_wp2
  go_ret
  exact ⟨rfl, rfl⟩
end Go.Proofs.Yticfjnjeoikalaa
