/- pipe.Take. -/
import Derived.Test.YtpbgcbpofhbgbaaPipeDrop
import Derived.Test.YtpbgcbpofhbgbaaClone
namespace Go.Proofs.Ytpbgcbpofhbgbaa
open Go.RowKit

/-- what is left behind so many bytes -/
def dropS : List (List UInt8 × Bool × Bool) → Nat → List (List UInt8 × Bool × Bool)
  | [], _ => []
  | (l, b, d) :: xs, m => if m = 0 then (l, b, d) :: xs else if m < l.length then (l.drop m, true, d) :: xs else dropS xs (m - l.length)
theorem dropS_zero (S : List (List UInt8 × Bool × Bool)) : dropS S 0 = S := by
  rcases S with _ | ⟨⟨l, b, d⟩, xs⟩
  · rfl
  · rw [dropS, if_pos rfl]
theorem dropS_part {l : List UInt8} {b d : Bool} {xs : List (List UInt8 × Bool × Bool)} {m : Nat} (h0 : 0 < m) (h : m < l.length) : dropS ((l, b, d) :: xs) m = (l.drop m, true, d) :: xs := by rw [dropS, if_neg (by omega), if_pos h]
theorem dropS_all {l : List UInt8} {b d : Bool} {xs : List (List UInt8 × Bool × Bool)} {m : Nat} (h0 : 0 < m) (h : l.length ≤ m) : dropS ((l, b, d) :: xs) m = dropS xs (m - l.length) := by rw [dropS, if_neg (by omega), if_neg (by omega)]
theorem flat_part {l : List UInt8} {b d : Bool} {xs : List (List UInt8 × Bool × Bool)} {m : Nat} (h : m < l.length) : (flatP ((l, b, d) :: xs)).take m = l.take m := by
  unfold flatP
  rw [List.flatMap_cons, List.take_append_of_le_length (by show m ≤ l.length; omega)]
theorem flat_all {l : List UInt8} {b d : Bool} {xs : List (List UInt8 × Bool × Bool)} {m : Nat} (h : l.length ≤ m) : (flatP ((l, b, d) :: xs)).take m = l ++ (flatP xs).take (m - l.length) := by
  unfold flatP
  rw [List.flatMap_cons, List.take_append, List.take_of_length_le h]
theorem wpList_append_byn {w : World} {ops : Array Oper} {rest : List Oper} {o : Oper} {a : Act} {Q : Exit → Act → World → Prop} (hgd : o.guard = none) (s x : Operand)
    (ho : o.op = .call { callee := .builtin .append, args := #[s, x], argTypes := #[23, 23] })
    {base : Nat} {v : Value} {l m : List UInt8} {Z : Nat → Prop} {A : Option Addr} {c n : Nat} (hn : n = m.length) (hs : a.eval s = v) (hown : OwB w base v l) (hx : a.eval x = .slice A n c) (hr : Rd w Z 1 A n (m.map bv))
    (hsum : l.length + n ≤ 140737488355328) (hbase : base ≤ w.heap.size)
    (h : ∀ (L : List UInt8) (A' : Option Addr) (c' : Nat) (w' : World), Hid (L = l ++ m) → OwB w' base (.slice A' L.length c') L → w.grownBy w' v.ownBlock → ((Value.slice A' L.length c').ownBlock = v.ownBlock ∨ (Value.slice A' L.length c').ownBlock = some w.heap.size) → wpList Try.prog ops Q rest (a.put o.dst (.slice A' L.length c')) w') : wpList Try.prog ops Q (o :: rest) a w := by
  subst hn
  exact wpList_append_by hgd s x ho hs hown hx hr hsum hbase h
def lenOf : Value → Nat | .slice _ n _ => n | _ => 0

theorem PipeAt.of {w : World} {base pb B c : Nat} {X : Nat → Prop} {A A0 : Option Addr} {ls : List PV} {cl : Bool} (blk : Blk w pb 48 #[.slice A ls.length c, .bool cl]) (row : Pars w base A c ls)
    (ok : ∀ p ∈ ls, p.x.ok w (fun b => b < B ∧ b ≠ pb ∧ ablk A0 ≠ some b ∧ ¬ X b)) (hA : ∀ g, ablk A = some g → ablk A0 = some g) (full : ∀ p ∈ ls, 0 < p.x.l.length) : PipeAt w base pb X A c ls cl :=
  ⟨blk, row, fun p hp => (ok p hp).mono (fun b _ hz => ⟨hz.2.1, fun e => hz.2.2.1 (hA b e), hz.2.2.2⟩), full⟩
/-- what the rounds of Take keep -/
def tkRel (w : World) (base pb : Nat) (X : Nat → Prop) (A : Option Addr) (S : List (List UInt8 × Bool × Bool)) (cl : Bool) (n : Nat) (ov : Value) (wr : World) : Prop :=
  ∃ (L : List UInt8) (A2 : Option Addr) (c2 : Nat) (Ap : Option Addr) (cp : Nat) (lp : List PV), ov = .slice A2 L.length c2 ∧ OwB wr w.heap.size (.slice A2 L.length c2) L ∧ Blk wr pb 48 #[.slice Ap lp.length cp, .bool cl] ∧ Pars wr base Ap cp lp ∧
    (∀ p ∈ lp, p.x.ok wr (fun b => b < w.heap.size ∧ b ≠ pb ∧ ablk A ≠ some b ∧ ¬ X b)) ∧ (∀ p ∈ lp, 0 < p.x.l.length) ∧
    Fr (fun k => k = pb ∨ ablk A = some k) w wr ∧ (∀ g, ablk Ap = some g → ablk A = some g) ∧ L.length ≤ n ∧ Hid (flatP S = L ++ flatP (lp.map PV.s)) ∧ Hid (dropS S n = dropS (lp.map PV.s) (n - L.length))

set_option maxRecDepth 100000 in
set_option maxHeartbeats 4000000 in
theorem pipeTake_any (base pb : Nat) (X : Nat → Prop) (A : Option Addr) (c : Nat) (ls : List PV) (cl : Bool) (w : World) (h : PipeAt w base pb X A c ls cl) (i : Int) (hi : -9223372036854775808 ≤ i ∧ i < 9223372036854775808) (hb : (flatP (ls.map PV.s)).length ≤ 70368744177664) (_hbase : base ≤ w.heap.size) :
    Calls Try.prog 13 #[.pointer (some ⟨pb, 0, none⟩), .int .i64 i] w fun e w' => ∃ (A' : Option Addr) (c' : Nat) (l' : List UInt8), e = .returned (.slice A' l'.length c') ∧ Hid (l' = (flatP (ls.map PV.s)).take i.toNat) ∧ OwB w' w.heap.size (.slice A' l'.length c') l' ∧ PipeTo w base pb X A (dropS (ls.map PV.s) i.toNat) cl w' := by
  go_enter Try.func13, Try.ntmps13
  go_wp2_with fail
  go_loopw [4] (fun ov wr => tkRel w base pb X A (ls.map PV.s) cl i.toNat ov wr) (fun ov _ => i.toNat - lenOf ov)
  case atStart => exact ⟨[], none, 0, A, c, ls, rfl, OwB.nil _ _, h.blk, h.row, fun p hp => (h.ok p hp).mono (fun b hb hz => ⟨hb, hz⟩), h.full, Fr.refl _ _, fun _ h => h, Nat.zero_le _, by show _ = _; simp, by show _ = _; simp⟩
  case round =>
    obtain ⟨L, A2, c2, Ap, cp, lp, rfl, hown, hbl, hrw, hok, hfl, hfr, hAp, hLn, hF, hD⟩ := hrel
    have hp := PipeAt.of hbl hrw hok hAp hfl
    clear hbl hrw hfl
    by_cases hgo : (L.length : Int) < i ∧ 0 < lp.length
    · obtain ⟨hlt, hlp⟩ := hgo
      rcases lp with _ | ⟨p, lp⟩
      · simp at hlp
      obtain ⟨g, off, rfl, hgb, hgl, hgne, q0, q1, q2⟩ := hp.par (i := 0) (by simp)
      obtain ⟨⟨xA, xc, xl⟩, xb, xd⟩ := p
      have hxok := hp.ok _ List.mem_cons_self
      have hxf := hp.full _ List.mem_cons_self
      obtain ⟨hxy, hxc, hxm⟩ := hxok
      simp only [List.getElem_cons_zero, Nat.zero_mul, Nat.add_zero] at q0 q1 q2
      dsimp only at hxf hxy hxc hxm
      obtain ⟨m, hm⟩ : ∃ m : Nat, i.toNat = L.length + m := ⟨i.toNat - L.length, by omega⟩
      have hw1 : IntKind.i64.wrap (i - (L.length : Int)) = (m : Int) := by rw [show i - (L.length : Int) = (m : Int) by omega]; exact IntWalk.i64_in _ (by omega)
      have c0 := hp.c0
      have f0 := hp.f0
      have f1 := hp.row.frozen off
      have f2 := hp.row.frozen (off + 1)
      have hroom := hp.row.room
      have hL0 : (L.length : Int) ≥ 0 := by omega
      have hLw : ∀ b, ablk A2 = some b → w.heap.size ≤ b ∧ b < wr.heap.size := own_ablk hown
      have hsz := hfr.size
      have hgw : g < w.heap.size := (h.row.lt g (hAp g rfl)).2
      have hpbw := h.blk.lt
      have hcpm := hp.row.cap
      have hmx : maxLen = 9223372036854775807 := rfl
      rw [hmx] at hcpm hxm
      have hLx : L.length + xl.length ≤ 140737488355328 := by
        have e1 := congrArg List.length hF.out
        rw [List.length_append] at e1
        have e2 : xl.length ≤ (flatP ((⟨⟨xA, xc, xl⟩, xb, xd⟩ :: lp : List PV).map PV.s)).length := by unfold flatP; rw [List.map_cons, List.flatMap_cons, List.length_append]; exact Nat.le_add_right _ _
        omega
      by_cases hk : xl.length ≤ m
      · have hmin : min (m : Int) (xl.length : Int) = (xl.length : Int) := by omega
        go_wp2_with (at_builtin; refine wpList_append_byn rfl (.tmp 38) (.tmp 44) rfl (m := xl) (n := xl.length) rfl (v := .slice A2 L.length c2) rfl hown rfl hxy (by omega) hsz ?_; intro L3 A3 c3 w3 hL3 hown3 hg3 hat3; have f3 : Fr (fun k => ablk A2 = some k) wr w3 := Fr.of_grown hg3 (fun k _ e => by rcases A2 with _ | a2; cases e; exact e); have hok3 := fun p hp' => (hok p hp').fr f3 (fun b _ hz e => by have := (hLw b e).1; have := hz.1; omega); have hp3 := PipeAt.of (hp.blk.fr f3 (fun e => by have := hLw _ e; omega)) (hp.row.fr f3 (fun g' e1 e2 => by have := hLw _ e2; injection e1 with e1; have e1' : g = g' := e1; omega)) hok3 hAp hp.full; obtain ⟨g', off', e9, _, _, _, q3, q4, q5⟩ := hp3.par (i := 0) (by simp); injection e9 with e9; injection e9 with e9 e10; subst e9 e10; simp only [List.getElem_cons_zero, Nat.zero_mul, Nat.add_zero] at q3 q4; have f4 := hp3.row.frozen off; have f5 := hp3.row.frozen (off + 1); have c3' := hp3.c0; have f6 := hp3.f0)
        go_region_law (fail)
        all_goals
          have rowV : Row (((w3.setCell ⟨g, off, none⟩ (.slice xA 0 0)).setCell ⟨g, off + 1, none⟩ (.bool true)).drew) base 75 3 (some ⟨g, off, none⟩) (lp.length + 1) cp (.slice xA 0 0 :: .bool true :: .bool xd :: lp.flatMap PV.cells) := ((hp3.row.put 0 (.slice xA 0 0)).put 1 (.bool true)).drew
          have bV : Blk (((w3.setCell ⟨g, off, none⟩ (.slice xA 0 0)).setCell ⟨g, off + 1, none⟩ (.bool true)).drew) pb 48 #[.slice (some ⟨g, off, none⟩) (lp.length + 1) cp, .bool cl] := ((hp3.blk.far (p := ⟨g, off, none⟩) (by simp; omega) _).far (p := ⟨g, off + 1, none⟩) (by simp; omega) _).drew
          have fV : Fr (fun k => k = g) w3 (((w3.setCell ⟨g, off, none⟩ (.slice xA 0 0)).setCell ⟨g, off + 1, none⟩ (.bool true)).drew) := (((Fr.refl (fun k => k = g) w3).setAt g off rfl _).setAt g (off + 1) rfl _).drew
          generalize ((w3.setCell ⟨g, off, none⟩ (.slice xA 0 0)).setCell ⟨g, off + 1, none⟩ (.bool true)).drew = V at *
          have oV : OwB V w.heap.size (.slice A3 L3.length c3) L3 := hown3.fr fV (fun k hk e => by have := (hown3.lt k hk).1; omega)
          have okV : ∀ p ∈ lp, p.x.ok V (fun b => b < w.heap.size ∧ b ≠ pb ∧ ablk A ≠ some b ∧ ¬ X b) := fun p hp' => (hok3 p (List.mem_cons_of_mem _ hp')).fr fV (fun b _ hz e => hz.2.2.1 (by rw [e]; exact hAp g rfl))
          have fwV : Fr (fun k => k = pb ∨ ablk A = some k) w V := (hfr.trans f3 (fun x hx e => by have := (hLw x e).1; omega)).trans fV (fun x hx e => .inr (by rw [e]; exact hAp g rfl))
          have v0 : V.cell? ⟨g, off, none⟩ = some (.slice xA 0 0) := rowV.cell (j := 0) rfl
          have vp : V.cell? ⟨pb, 0, none⟩ = some (.slice (some ⟨g, off, none⟩) (lp.length + 1) cp) := bV.cell 0
          have vf := bV.frozen 0
          clear q3 q4 q5 f4 f5 c3' f6
          by_cases hcp : cp = 1
          · have hcpb : (cp : Int) = 1 := by omega
            go_wp2_with fail
            have rowT := rowV.tail (k := 1) (by omega)
            rw [if_pos hcp] at rowT
            rw [show lp.length + 1 - 1 = lp.length by omega, show cp - 1 = 0 by omega, show (Value.slice xA 0 0 :: Value.bool true :: Value.bool xd :: lp.flatMap PV.cells).drop (1 * 3) = lp.flatMap PV.cells from rfl] at rowT
            have fT : Fr (fun k => k = pb) V (V.setCell ⟨pb, 0, none⟩ (.slice (some ⟨g, off, none⟩) lp.length 0)) := (Fr.refl (fun k => k = pb) V).setAt pb 0 rfl _
            have bT : Blk (V.setCell ⟨pb, 0, none⟩ (.slice (some ⟨g, off, none⟩) lp.length 0)) pb 48 #[.slice (some ⟨g, off, none⟩) lp.length 0, .bool cl] := by simpa using bV.set_ 0 (.slice (some ⟨g, off, none⟩) lp.length 0)
            have rT : Pars (V.setCell ⟨pb, 0, none⟩ (.slice (some ⟨g, off, none⟩) lp.length 0)) base (some ⟨g, off, none⟩) 0 lp := Row.fr rowT fT (fun k hk e => hgne (by injection hk with hk; have hk' : g = k := hk; omega))
            go_roundw
            case rel =>
              refine ⟨L3, A3, c3, _, 0, lp, rfl, oV.fr fT (fun k hk e => by have := (oV.lt k hk).1; omega), bT, rT, fun p hp' => (okV p hp').fr fT (fun b _ hz e => hz.2.1 e), fun p hp' => hp3.full p (List.mem_cons_of_mem _ hp'), fwV.trans fT (fun x hx e => .inl e), fun k hk => hAp k hk, by rw [hL3.out, List.length_append]; omega, ?_, ?_⟩
              · show _ = _
                rw [hF.out, hL3.out, List.append_assoc]; rfl
              · show _ = _
                rw [hD.out, hm, Nat.add_sub_cancel_left, List.map_cons, show PV.s ⟨⟨xA, xc, xl⟩, xb, xd⟩ = (xl, xb, xd) from rfl, dropS_all (by omega) hk, hL3.out, List.length_append, show L.length + m - (L.length + xl.length) = m - xl.length by omega]
            case measure => simp only [lenOf]; rw [hL3.out, List.length_append]; omega
          · have hcp1 : ¬ cp - 1 = 0 := by omega
            go_wp2_with fail
            have rowT := rowV.tail (k := 1) (by omega)
            rw [if_neg hcp] at rowT
            rw [Option.map_some, add_none, show off + 1 * 3 = off + 3 by omega] at rowT
            rw [show lp.length + 1 - 1 = lp.length by omega, show (Value.slice xA 0 0 :: Value.bool true :: Value.bool xd :: lp.flatMap PV.cells).drop (1 * 3) = lp.flatMap PV.cells from rfl] at rowT
            have fT : Fr (fun k => k = pb) V (V.setCell ⟨pb, 0, none⟩ (.slice (some ⟨g, off + 3, none⟩) lp.length (cp - 1))) := (Fr.refl (fun k => k = pb) V).setAt pb 0 rfl _
            have bT : Blk (V.setCell ⟨pb, 0, none⟩ (.slice (some ⟨g, off + 3, none⟩) lp.length (cp - 1))) pb 48 #[.slice (some ⟨g, off + 3, none⟩) lp.length (cp - 1), .bool cl] := by simpa using bV.set_ 0 (.slice (some ⟨g, off + 3, none⟩) lp.length (cp - 1))
            have rT : Pars (V.setCell ⟨pb, 0, none⟩ (.slice (some ⟨g, off + 3, none⟩) lp.length (cp - 1))) base (some ⟨g, off + 3, none⟩) (cp - 1) lp := Row.fr rowT fT (fun k hk e => hgne (by injection hk with hk; have hk' : g = k := hk; omega))
            go_roundw
            case rel =>
              refine ⟨L3, A3, c3, _, (cp - 1), lp, rfl, oV.fr fT (fun k hk e => by have := (oV.lt k hk).1; omega), bT, rT, fun p hp' => (okV p hp').fr fT (fun b _ hz e => hz.2.1 e), fun p hp' => hp3.full p (List.mem_cons_of_mem _ hp'), fwV.trans fT (fun x hx e => .inl e), fun k hk => hAp k hk, by rw [hL3.out, List.length_append]; omega, ?_, ?_⟩
              · show _ = _
                rw [hF.out, hL3.out, List.append_assoc]; rfl
              · show _ = _
                rw [hD.out, hm, Nat.add_sub_cancel_left, List.map_cons, show PV.s ⟨⟨xA, xc, xl⟩, xb, xd⟩ = (xl, xb, xd) from rfl, dropS_all (by omega) hk, hL3.out, List.length_append, show L.length + m - (L.length + xl.length) = m - xl.length by omega]
            case measure => simp only [lenOf]; rw [hL3.out, List.length_append]; omega
      · have hmin : min (m : Int) (xl.length : Int) = (m : Int) := by omega
        obtain ⟨bx, ox, rfl, _, _⟩ := hxy.some_of (by omega)
        have i1 : (0 : Int) ≤ (m : Int) := by omega
        have i2 : (m : Int) ≤ (xl.length : Int) := by omega
        have i3 : (xl.length : Int) ≤ (xc : Int) := by omega
        have i4 : ¬ xl.length = m := by omega
        have hkl : m = (xl.take m).length := by rw [List.length_take]; omega
        have Hkl := Lib.hid hkl
        clear hkl
        have hDr := Rd.take hxy (k := m) (by omega)
        rw [Nat.mul_one, ← List.map_take] at hDr
        go_wp2_with (at_builtin; refine wpList_append_byn rfl (.tmp 38) (.tmp 44) rfl (m := (xl.take m)) (n := m) Hkl.out (v := .slice A2 L.length c2) rfl hown rfl hDr (by omega) hsz ?_; intro L3 A3 c3 w3 hL3 hown3 hg3 hat3; have f3 : Fr (fun k => ablk A2 = some k) wr w3 := Fr.of_grown hg3 (fun k _ e => by rcases A2 with _ | a2; cases e; exact e); have hok3 := fun p hp' => (hok p hp').fr f3 (fun b _ hz e => by have := (hLw b e).1; have := hz.1; omega); have hp3 := PipeAt.of (hp.blk.fr f3 (fun e => by have := hLw _ e; omega)) (hp.row.fr f3 (fun g' e1 e2 => by have := hLw _ e2; injection e1 with e1; have e1' : g = g' := e1; omega)) hok3 hAp hp.full; obtain ⟨g', off', e9, _, _, _, q3, q4, q5⟩ := hp3.par (i := 0) (by simp); injection e9 with e9; injection e9 with e9 e10; subst e9 e10; simp only [List.getElem_cons_zero, Nat.zero_mul, Nat.add_zero] at q3 q4; have f4 := hp3.row.frozen off; have f5 := hp3.row.frozen (off + 1); have c3' := hp3.c0; have f6 := hp3.f0)
        go_region_law (fail)
        all_goals
          have rowV : Row (((w3.setCell ⟨g, off, none⟩ (.slice (some ⟨bx, ox + m, none⟩) (xl.length - m) (xl.length - m))).setCell ⟨g, off + 1, none⟩ (.bool true)).drew) base 75 3 (some ⟨g, off, none⟩) (lp.length + 1) cp (.slice (some ⟨bx, ox + m, none⟩) (xl.length - m) (xl.length - m) :: .bool true :: .bool xd :: lp.flatMap PV.cells) := ((hp3.row.put 0 (.slice (some ⟨bx, ox + m, none⟩) (xl.length - m) (xl.length - m))).put 1 (.bool true)).drew
          have bV : Blk (((w3.setCell ⟨g, off, none⟩ (.slice (some ⟨bx, ox + m, none⟩) (xl.length - m) (xl.length - m))).setCell ⟨g, off + 1, none⟩ (.bool true)).drew) pb 48 #[.slice (some ⟨g, off, none⟩) (lp.length + 1) cp, .bool cl] := ((hp3.blk.far (p := ⟨g, off, none⟩) (by simp; omega) _).far (p := ⟨g, off + 1, none⟩) (by simp; omega) _).drew
          have fV : Fr (fun k => k = g) w3 (((w3.setCell ⟨g, off, none⟩ (.slice (some ⟨bx, ox + m, none⟩) (xl.length - m) (xl.length - m))).setCell ⟨g, off + 1, none⟩ (.bool true)).drew) := (((Fr.refl (fun k => k = g) w3).setAt g off rfl _).setAt g (off + 1) rfl _).drew
          generalize ((w3.setCell ⟨g, off, none⟩ (.slice (some ⟨bx, ox + m, none⟩) (xl.length - m) (xl.length - m))).setCell ⟨g, off + 1, none⟩ (.bool true)).drew = V at *
          have oV : OwB V w.heap.size (.slice A3 L3.length c3) L3 := hown3.fr fV (fun k hk e => by have := (hown3.lt k hk).1; omega)
          have okV : ∀ p ∈ lp, p.x.ok V (fun b => b < w.heap.size ∧ b ≠ pb ∧ ablk A ≠ some b ∧ ¬ X b) := fun p hp' => (hok3 p (List.mem_cons_of_mem _ hp')).fr fV (fun b _ hz e => hz.2.2.1 (by rw [e]; exact hAp g rfl))
          have fwV : Fr (fun k => k = pb ∨ ablk A = some k) w V := (hfr.trans f3 (fun x hx e => by have := (hLw x e).1; omega)).trans fV (fun x hx e => .inr (by rw [e]; exact hAp g rfl))
          have v0 : V.cell? ⟨g, off, none⟩ = some (.slice (some ⟨bx, ox + m, none⟩) (xl.length - m) (xl.length - m)) := rowV.cell (j := 0) rfl
          have vp : V.cell? ⟨pb, 0, none⟩ = some (.slice (some ⟨g, off, none⟩) (lp.length + 1) cp) := bV.cell 0
          have vf := bV.frozen 0
          clear q3 q4 q5 f4 f5 c3' f6
          have hdl : (xl.drop m).length = xl.length - m := List.length_drop
          have okF : BV.ok V (fun b => b < w.heap.size ∧ b ≠ pb ∧ ablk A ≠ some b ∧ ¬ X b) ⟨some ⟨bx, ox + m, none⟩, xl.length - m, xl.drop m⟩ := by
            have h0 := ((hok3 _ List.mem_cons_self).fr fV (fun b _ hz e => hz.2.2.1 (by rw [e]; exact hAp g rfl))).1
            have h1 := Rd.drop h0 (k := m) (cap := xl.length) (by show m ≤ xl.length; omega) (Nat.le_refl _)
            rw [if_neg i4, Option.map_some, add_none, Nat.mul_one, ← List.map_drop] at h1
            refine ⟨?_, by show (xl.drop m).length ≤ xl.length - m; omega, by show xl.length - m ≤ maxLen; simp only [maxLen]; omega⟩
            unfold By
            rw [hdl]
            exact h1
          have Hdl := Lib.hid hdl
          have hL3l : L3.length = L.length + m := by rw [hL3.out, List.length_append, ← Hkl.out]
          have HL3 := Lib.hid hL3l
          clear hdl hL3l i4
          have i5 : ((xl.length - m : Nat) : Int) ≠ 0 := by omega
          have i6 : (((xl.length - m : Nat) : Int) == 0) = false := by rw [beq_eq_false_iff_ne]; exact i5
          go_wp2_with fail
          go_roundw
          case rel =>
            refine ⟨L3, A3, c3, _, cp, ⟨⟨some ⟨bx, ox + m, none⟩, xl.length - m, xl.drop m⟩, true, xd⟩ :: lp, rfl, oV, bV, ?_, ?_, ?_, fwV, fun k hk => hAp k hk, by rw [HL3.out]; omega, ?_, ?_⟩
            · show Row _ _ _ _ _ _ _ _
              simp only [List.length_cons, List.flatMap_cons, PV.cells, Hdl.out]
              exact rowV
            · intro p hp'
              rcases List.mem_cons.1 hp' with rfl | hp'
              · exact okF
              · exact okV p hp'
            · intro p hp'
              rcases List.mem_cons.1 hp' with rfl | hp'
              · show 0 < (xl.drop m).length
                rw [Hdl.out]; omega
              · exact hp3.full p (List.mem_cons_of_mem _ hp')
            · show _ = _
              rw [hF.out, hL3.out, List.append_assoc]
              congr 1
              show xl ++ _ = _
              unfold flatP
              rw [List.map_cons, List.flatMap_cons, ← List.append_assoc]
              show xl ++ _ = (xl.take m ++ xl.drop m) ++ _
              rw [List.take_append_drop]
              rfl
            · show _ = _
              rw [hD.out, hm, Nat.add_sub_cancel_left, List.map_cons, show PV.s ⟨⟨some ⟨bx, ox, none⟩, xc, xl⟩, xb, xd⟩ = (xl, xb, xd) from rfl, dropS_part (by omega) (by omega), HL3.out, Nat.sub_self, dropS_zero]
              rfl
          case measure => simp only [lenOf]; rw [HL3.out]; omega
    · have hend : L.length = i.toNat ∨ lp = [] := by
        by_cases h1 : (L.length : Int) < i
        · exact .inr (List.eq_nil_of_length_eq_zero (by omega))
        · exact .inl (by omega)
      have hres : Hid (L = (flatP (ls.map PV.s)).take i.toNat) := by
        show _ = _
        rw [hF.out]
        rcases hend with h1 | h1
        · rw [← h1, List.take_left]
        · subst h1
          rw [show flatP (([] : List PV).map PV.s) = [] from rfl, List.append_nil, List.take_of_length_le hLn]
      have hds : dropS (ls.map PV.s) i.toNat = lp.map PV.s := by
        rw [hD.out]
        rcases hend with h1 | h1
        · rw [h1, Nat.sub_self, dropS_zero]
        · subst h1; rfl
      have HDS := Lib.hid hds
      have c0 := hp.c0
      clear hds hend
      by_cases h1 : (L.length : Int) < i
      · have h2 : lp.length = 0 := by omega
        obtain rfl := List.eq_nil_of_length_eq_zero h2
        clear hgo h2
        go_wp2_with fail
        go_ret
        exact ⟨A2, c2, L, rfl, hres, hown, by rw [HDS.out]; exact ⟨⟨Ap, cp, [], hp, rfl, fun g hg => .inl (hAp g hg)⟩, hfr⟩⟩
      · clear hgo
        go_wp2_with fail
        go_ret
        exact ⟨A2, c2, L, rfl, hres, hown, by rw [HDS.out]; exact ⟨⟨Ap, cp, lp, hp, rfl, fun g hg => .inl (hAp g hg)⟩, hfr⟩⟩
end Go.Proofs.Ytpbgcbpofhbgbaa
