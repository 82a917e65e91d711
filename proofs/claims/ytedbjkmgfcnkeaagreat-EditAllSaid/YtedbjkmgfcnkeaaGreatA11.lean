/- tenderref10: plan, Items. -/
import Derived.Test.YtedbjkmgfcnkeaaGreatA10

namespace Go.Proofs.YtedbjkmgfcnkeaaGreat
open Go.RowKit Go.Maps

/-- what is told of a path: a leaf, or none -/
def lvO : Option LV → LV
  | some o => o
  | none => ⟨0, ⟨none, 0, []⟩⟩
theorem lvO_v (o : Option LV) : leafO o = .agg #[.int .i64 (lvO o).k, .slice (lvO o).x.A (lvO o).x.l.length (lvO o).x.c] := by cases o <;> rfl
theorem lvO_p (L : List (List UInt8 × LV)) (p : List UInt8) : (lvO (getR L p)).p = leafS (plainL L) p := by
  unfold leafS
  rw [get_plain]
  cases getR L p <;> rfl
theorem lvO_ok {w : World} {B : Option Addr} {L : List (List UInt8 × LV)} (h : Its w B L) (p : List UInt8) : (lvO (getR L p)).x.ok w (fun _ => True) := by
  rcases hg : getR L p with _ | o
  · exact ⟨Rd.nil, by simp [lvO], by simp [lvO, maxLen]⟩
  · exact h.ok _ (getR_mem hg)
theorem lvO_okl {w : World} {B : Option Addr} {L : List (List UInt8 × LV)} {T : List (List UInt8 × LP)} (h : Its w B L) (p : List UInt8) (_ : L.length ≤ 128) (hok : TreeOk T) (hT : Hid (plainL L = T)) : (lvO (getR L p)).x.ok w (fun _ => True) ∧ (lvO (getR L p)).x.l.length ≤ 140737488355328 := by
  refine ⟨lvO_ok h p, ?_⟩
  have h1 := leafS_len hok p
  have h2 := congrArg (fun z => z.2.length) (lvO_p L p)
  rw [hT.out] at h2
  have h3 : (lvO (getR L p)).x.l.length = (leafS T p).2.length := h2
  omega
theorem rtxt_at {w : World} {Z : Nat → Prop} {A : Option Addr} {l : List (List UInt8)} (h : Rd w Z 1 A l.length (l.map stv)) {i : Nat} (hi : i < l.length) :
    ∃ b off, A = some ⟨b, off, none⟩ ∧ b < w.heap.size ∧ w.cell? ⟨b, off + i, none⟩ = some (stv l[i]) := by
  obtain ⟨b, off, hA, _, hb, hc⟩ := h.2 (by omega)
  exact ⟨b, off, hA, hb, hc i _ (by rw [List.getElem?_map, List.getElem?_eq_getElem hi]; rfl)⟩
theorem refGetV (B : Option Addr) (d : Nat) (L : List (List UInt8 × LV)) (p : List UInt8) (w : World) (h : Its w B L) (hp : p.length ≤ 1048576) :
    Calls Tryz.prog 21 #[.slice B L.length d, .string ⟨⟨p⟩⟩] w fun e w' => e = .returned (.agg #[.int .i64 (lvO (getR L p)).k, .slice (lvO (getR L p)).x.A (lvO (getR L p)).x.l.length (lvO (getR L p)).x.c]) ∧ Below w.heap.size w w' := by
  refine (refGet08_any B d L p w h (by omega)).mono ?_
  rintro e w' ⟨rfl, hb⟩
  exact ⟨by rw [lvO_v], hb⟩
/-- an own row of items, whose bytes are read -/
theorem OwI.itsR {w0 w : World} {base : Nat} {A : Option Addr} {c : Nat} {M : List (List UInt8 × LV)} (h : OwI w base A c M) (hok : ∀ x ∈ M, x.2.x.ok w0 (fun _ => True) ∧ x.1.length ≤ 1048576 ∧ x.2.x.l.length ≤ 140737488355328) (hl : M.length ≤ 1099511627776) (k : Below w0.heap.size w0 w) : Its w A M :=
  h.its (fun x hx => (hok x hx).1.below k) hl (fun x hx => (hok x hx).2)
theorem OwI.lit {w : World} {base : Nat} (y : List UInt8 × LV) (hb : base ≤ w.heap.size) : OwI (w.alloc (.cells #[.string ⟨⟨y.1⟩⟩, .int .i64 y.2.k, .slice y.2.x.A y.2.x.l.length y.2.x.c] 51)) base (some ⟨w.heap.size, 0, none⟩) 1 [y] := by
  have := own_base (item_lit w y) (base' := base) (fun g hg => by
    have e : w.heap.size = g := by simpa [Value.ownBlock] using hg
    omega)
  unfold OwI
  rw [List.flatMap_cons, List.flatMap_nil, List.append_nil]
  exact this
/-- append of items, whose bytes are read -/
theorem wpList_append_itemsR {w : World} {ops : Array Oper} {rest : List Oper} {o : Oper} {a : Act} {Q : Exit → Act → World → Prop} (hgd : o.guard = none) (s x : Operand) {t : TypeId} (hu : Tryz.prog.underlying t = some (.slice 51))
    (ho : o.op = .call { callee := .builtin .append, args := #[s, x], argTypes := #[t, t] })
    {base base2 : Nat} {A A2 : Option Addr} {c c2 : Nat} {L N : List (List UInt8 × LV)} (hs : a.eval s = .slice A L.length c) (hown : OwI w base A c L) (hx : a.eval x = .slice A2 N.length c2) (hr : ItsOwn w base2 A2 c2 N)
    (hsum : L.length + N.length ≤ 1099511627776) (hbase : base ≤ w.heap.size)
    (h : ∀ (A' : Option Addr) (c' : Nat) (w' : World), OwI w' base A' c' (L ++ N) → (∀ x ∈ N, x.2.x.ok w' (fun _ => True)) → Below base w w' → wpList Tryz.prog ops Q rest (a.put o.dst (.slice A' (L.length + N.length) c')) w') : wpList Tryz.prog ops Q (o :: rest) a w := by
  obtain ⟨i0, hi0, hz0, hz1, hz2⟩ := info_parts item_info
  refine wpList_append_any w hgd s x _ ho base 51 i0 _ 3 48 hu hi0 hz0 hz1 hz2 rfl (by omega) (.slice A L.length c) L.length (L.flatMap itemC) hs hown _ A2 N.length c2 (N.flatMap itemC) hx (Rd.of_own hr.row (fun _ _ _ => trivial)) (fun u hu => item_one N u hu) (by simp only [maxLen]; omega) (by omega) hbase ?_
  intro v' w' h1 h2 h3
  obtain ⟨A', c', rfl, _⟩ := own_form h1
  have hb := grown_below h2 hbase (fun g e => (hown.lt g e).1)
  refine h A' c' w' ?_ (fun x hx => ?_) hb
  · unfold OwI
    rw [List.length_append, List.flatMap_append]
    exact h1
  · have hf : Fr (fun k => (Value.slice A L.length c).ownBlock = some k) w w' := ⟨hb.os, hb.tape, hb.output, hb.size, fun k hk hne => h2.block k hk (fun e => hne e.symm)⟩
    have h5 : OwB w' base2 (.slice x.2.x.A x.2.x.l.length x.2.x.c) x.2.x.l := own_fr (hr.byt x hx) hf (own_apart (hr.byt x hx) hown (by decide))
    obtain ⟨A5, c5, e, g1, g2, _⟩ := own_form h5
    injection e with e1 e2 e3
    subst e1 e3
    exact ⟨h5.rd.mono (fun _ _ _ => trivial), g1, g2⟩

set_option maxRecDepth 100000 in
set_option maxHeartbeats 4000000 in
theorem planR_any (B : Option Addr) (d : Nat) (L : List (List UInt8 × LV)) (k : Int) (p t : List UInt8) (dA : Option Addr) (dc : Nat) (dl : List UInt8) (Z : Nat → Prop) (w : World) (h : Its w B L) (hok : TreeOk (plainL L)) (hp : p.length ≤ 1048576) (ht : t.length ≤ 1048576) (hy : BV.ok w Z ⟨dA, dc, dl⟩) (hdl : dl.length ≤ 4096) (hk : 1 ≤ k ∧ k ≤ 5) (hg : k = 5 → goodB p = true ∧ goodB t = true) :
    Calls Tryz.prog 64 #[.slice B L.length d, .agg #[.int .i64 k, .string ⟨⟨p⟩⟩, .string ⟨⟨t⟩⟩, .slice dA dl.length dc]] w fun e w' => ∃ (A : Option Addr) (c : Nat) (M : List (List UInt8 × LV)), e = .returned (.tuple #[.slice A M.length c, .int .i64 (planS (plainL L) k p t dl).2]) ∧ Hid (plainL M = (planS (plainL L) k p t dl).1) ∧ Its w' A M ∧ Below w.heap.size w w' := by
  obtain ⟨T, hT⟩ : ∃ T, T = plainL L := ⟨_, rfl⟩
  have hTT : Hid (plainL L = T) := Lib.hid hT.symm
  rw [← hT] at hok ⊢
  obtain ⟨R, hR⟩ : ∃ R, R = planS T k p t dl := ⟨_, rfl⟩
  rw [← hR]
  have HR := Lib.hid hR
  have HT := Lib.hid h
  have HY := Lib.hid (BV.ok.mono hy (Z' := fun _ => True) (fun _ _ _ => trivial))
  have HOK := Lib.hid hok
  have hLl : L.length ≤ 128 := by have := hok.len; rw [← hT.symm, plain_len] at this; exact this
  have HLL := Lib.hid hLl
  obtain ⟨lv, hlv⟩ : ∃ lv, lv = lvO (getR L p) := ⟨_, rfl⟩
  have HLV : Hid (lvO (getR L p) = lv) := Lib.hid hlv.symm
  have HLO : Hid (lv.x.ok w (fun _ => True)) := Lib.hid (by rw [hlv]; exact lvO_ok h p)
  have hlp : lv.p = leafS T p := by rw [hlv, lvO_p, hT]
  have hlk : kindL (getR T p) = lv.k := by have := congrArg Prod.fst hlp; exact this.symm
  have hld : dataL (getR T p) = lv.x.l := by have := congrArg Prod.snd hlp; exact this.symm
  have hl4 : lv.x.l.length ≤ 4096 := by rw [← hld]; exact leafS_len hok p
  have HLP := Lib.hid hlp
  clear h hT hR hok hy hlv hlp hLl
  obtain rfl | rfl | rfl | rfl | rfl : k = 1 ∨ k = 2 ∨ k = 3 ∨ k = 4 ∨ k = 5 := by omega
  · replace HR : Hid (R = ([(p, (1, dl))], 0)) := Lib.hid (by rw [HR.out]; unfold planS; simp)
    clear hlk hld
    have hw0 : Below w.heap.size w (w.alloc (.cells #[.int .i64 1, .string ⟨⟨p⟩⟩, .string ⟨⟨t⟩⟩, .slice dA dl.length dc] 35)) := (by repeat (first | exact Below.refl _ _ | refine Below.alloc ?_ (by simp) _ | refine Below.setCell ?_ (by simp) _ | refine Below.drew ?_))
    have x0 := Blk.new w 35 #[.int .i64 1, .string ⟨⟨p⟩⟩, .string ⟨⟨t⟩⟩, .slice dA dl.length dc]
    have q1 := x0.cell 1
    simp only [List.getElem?_toArray, List.getElem?_cons_zero, List.getElem?_cons_succ] at q1
    go_enter Tryz.func64, Tryz.ntmps64
    go_wp2_with fail
    refine (refGetV B d L p _ (HT.out.below hw0) hp).mono ?_
    rintro e w1 ⟨rfl, hb1⟩
    have x1 := x0.below hb1
    have hw1 := hw0.trans (hb1.mono hw0.size)
    clear q1 hb1 x0
    have hwb : Below w1.heap.size w1 (w1.alloc (.cells #[.int .i64 lv.k, .slice lv.x.A lv.x.l.length lv.x.c] 49)) := (Below.refl _ _).alloc (Nat.le_refl _) _
    have lb := Blk.new w1 49 #[.int .i64 lv.k, .slice lv.x.A lv.x.l.length lv.x.c]
    rw [HLV.out]
    have x2 := x1.below hwb
    have hw2 := hw1.trans (hwb.mono hw1.size)
    have q0 := x2.cell 0
    have q1 := x2.cell 1
    have q2 := x2.cell 2
    have q3 := x2.cell 3
    have r0 := lb.cell 0
    have r1 := lb.cell 1
    simp only [List.getElem?_toArray, List.getElem?_cons_zero, List.getElem?_cons_succ] at q0 q1 q2 q3 r0 r1
    have hd3 : (dl.length : Int) ≤ 4096 := by omega
    have hy3 := Lib.hid ((HY.out.below hw1).below hwb)
    clear hwb lb r0 r1 x1 x2
    have hi0 := OwI.itsR (w0 := _) (OwI.lit (w := _) (base := w.heap.size) ((p, ⟨1, ⟨dA, dc, dl⟩⟩) : List UInt8 × LV) hw2.size) (fun x hx => by rw [List.mem_singleton.1 hx]; exact ⟨hy3.out, hp, by show dl.length ≤ _; omega⟩) (by simp) ((Below.refl _ _).alloc (Nat.le_refl _) _)
    rw [show (w1.alloc (.cells #[.int .i64 lv.k, .slice lv.x.A lv.x.l.length lv.x.c] 49)).heap.size = w1.heap.size + 1 by simp] at hi0
    have HI := Lib.hid hi0
    have HP : Hid (plainL [((p, ⟨1, ⟨dA, dc, dl⟩⟩) : List UInt8 × LV)] = R.1) := Lib.hid (by rw [HR.out]; rfl)
    have hR2 : R.2 = 0 := by rw [HR.out]
    have HR2 := Lib.hid hR2
    have HW := Lib.hid (hw2.alloc hw2.size (.cells #[.string ⟨⟨((p, ⟨1, ⟨dA, dc, dl⟩⟩) : List UInt8 × LV).1⟩⟩, .int .i64 ((p, ⟨1, ⟨dA, dc, dl⟩⟩) : List UInt8 × LV).2.k, .slice ((p, ⟨1, ⟨dA, dc, dl⟩⟩) : List UInt8 × LV).2.x.A ((p, ⟨1, ⟨dA, dc, dl⟩⟩) : List UInt8 × LV).2.x.l.length ((p, ⟨1, ⟨dA, dc, dl⟩⟩) : List UInt8 × LV).2.x.c] 51))
    clear hR2 hi0
    go_wp2_with fail
    go_ret2
    exact ⟨some ⟨w1.heap.size + 1, 0, none⟩, 1, _, by rw [HR2.out]; rfl, HP.out, HI.out, HW.out⟩
  · by_cases h2 : lv.k = 2
    · replace HR : Hid (R = ([], 22)) := Lib.hid (by rw [HR.out]; unfold planS; simp [h2, hlk])
      clear hlk hld
      have hw0 : Below w.heap.size w (w.alloc (.cells #[.int .i64 2, .string ⟨⟨p⟩⟩, .string ⟨⟨t⟩⟩, .slice dA dl.length dc] 35)) := (by repeat (first | exact Below.refl _ _ | refine Below.alloc ?_ (by simp) _ | refine Below.setCell ?_ (by simp) _ | refine Below.drew ?_))
      have x0 := Blk.new w 35 #[.int .i64 2, .string ⟨⟨p⟩⟩, .string ⟨⟨t⟩⟩, .slice dA dl.length dc]
      have q1 := x0.cell 1
      simp only [List.getElem?_toArray, List.getElem?_cons_zero, List.getElem?_cons_succ] at q1
      go_enter Tryz.func64, Tryz.ntmps64
      go_wp2_with fail
      refine (refGetV B d L p _ (HT.out.below hw0) hp).mono ?_
      rintro e w1 ⟨rfl, hb1⟩
      have x1 := x0.below hb1
      have hw1 := hw0.trans (hb1.mono hw0.size)
      clear q1 hb1 x0
      have hwb : Below w1.heap.size w1 (w1.alloc (.cells #[.int .i64 lv.k, .slice lv.x.A lv.x.l.length lv.x.c] 49)) := (Below.refl _ _).alloc (Nat.le_refl _) _
      have lb := Blk.new w1 49 #[.int .i64 lv.k, .slice lv.x.A lv.x.l.length lv.x.c]
      rw [HLV.out]
      have x2 := x1.below hwb
      have hw2 := hw1.trans (hwb.mono hw1.size)
      have q0 := x2.cell 0
      have q1 := x2.cell 1
      have q2 := x2.cell 2
      have q3 := x2.cell 3
      have r0 := lb.cell 0
      have r1 := lb.cell 1
      simp only [List.getElem?_toArray, List.getElem?_cons_zero, List.getElem?_cons_succ] at q0 q1 q2 q3 r0 r1
      have h2b : (lv.k == 2) = true := by simpa using h2
      clear h2
      go_wp2_with fail
      go_ret2
      exact ⟨none, 0, [], by rw [HR.out]; rfl, by show _ = _; rw [HR.out]; rfl, Its.nil _, hw2⟩
    · replace HR : Hid (R = if 4096 < (lv.x.l ++ dl).length then ([], 13) else ([(p, (1, lv.x.l ++ dl))], 0)) := Lib.hid (by rw [HR.out]; unfold planS; simp [h2, hlk, hld])
      have h2b : (lv.k == 2) = false := by simpa using h2
      clear hlk hld
      have hw0 : Below w.heap.size w (w.alloc (.cells #[.int .i64 2, .string ⟨⟨p⟩⟩, .string ⟨⟨t⟩⟩, .slice dA dl.length dc] 35)) := (by repeat (first | exact Below.refl _ _ | refine Below.alloc ?_ (by simp) _ | refine Below.setCell ?_ (by simp) _ | refine Below.drew ?_))
      have x0 := Blk.new w 35 #[.int .i64 2, .string ⟨⟨p⟩⟩, .string ⟨⟨t⟩⟩, .slice dA dl.length dc]
      have q1 := x0.cell 1
      simp only [List.getElem?_toArray, List.getElem?_cons_zero, List.getElem?_cons_succ] at q1
      go_enter Tryz.func64, Tryz.ntmps64
      go_wp2_with fail
      refine (refGetV B d L p _ (HT.out.below hw0) hp).mono ?_
      rintro e w1 ⟨rfl, hb1⟩
      have x1 := x0.below hb1
      have hw1 := hw0.trans (hb1.mono hw0.size)
      clear q1 hb1 x0
      have hwb : Below w1.heap.size w1 (w1.alloc (.cells #[.int .i64 lv.k, .slice lv.x.A lv.x.l.length lv.x.c] 49)) := (Below.refl _ _).alloc (Nat.le_refl _) _
      have lb := Blk.new w1 49 #[.int .i64 lv.k, .slice lv.x.A lv.x.l.length lv.x.c]
      rw [HLV.out]
      have x2 := x1.below hwb
      have hw2 := hw1.trans (hwb.mono hw1.size)
      have q0 := x2.cell 0
      have q1 := x2.cell 1
      have q2 := x2.cell 2
      have q3 := x2.cell 3
      have r0 := lb.cell 0
      have r1 := lb.cell 1
      simp only [List.getElem?_toArray, List.getElem?_cons_zero, List.getElem?_cons_succ] at q0 q1 q2 q3 r0 r1
      have hlv3 := Lib.hid ((HLO.out.below hw1).below hwb).1
      have hd3 := Lib.hid ((HY.out.below hw1).below hwb).1
      have lb3 := lb
      have x3 := x2
      have hw3 := hw2
      obtain ⟨i0, hi0, hz0, hz1, hz2⟩ := info_parts u8_info
      clear hwb lb x1 x2 hw2
      go_wp2_with fail
      clear q0 q1 q2 q3 r0 r1
      generalize w1.alloc (.cells #[.int .i64 lv.k, .slice lv.x.A lv.x.l.length lv.x.c] 49) = w3 at *
      refine wp_region_p [(1, true), (2, true), (4, true), (5, true), (0, false), (3, false), (6, false)] (fun W => Below w3.heap.size w3 W) (by kernel_rfl) (by kernel_rfl) ?_
      simp only [List.map_cons, List.map_nil, List.filterMap_cons, List.filterMap_nil, List.getElem?_cons_zero, List.getElem?_cons_succ, List.length_cons, List.length_nil, Nat.zero_add, Nat.reduceAdd, List.drop_succ_cons, List.drop_zero]
      refine mx_val (by kernel_rfl) ⟨_, (by (intro w' hC; clear hC; (try go_simp); (try with_reducible rfl); done)), _, (by (simp only [Act.put, List.setIfInBounds_toArray, List.set_cons_zero, List.set_cons_succ]; rfl)), ?_⟩
      refine mx_val (by kernel_rfl) ⟨_, (by (intro w' hC; (have q := (lb3.below hC).cell 1; simp only [List.getElem?_toArray, List.getElem?_cons_zero, List.getElem?_cons_succ] at q); clear hC; (try go_simp); (try with_reducible rfl); done)), _, (by (simp only [Act.put, List.setIfInBounds_toArray, List.set_cons_zero, List.set_cons_succ]; rfl)), ?_⟩
      refine mx_val (by kernel_rfl) ⟨_, (by (intro w' hC; clear hC; (try go_simp); (try with_reducible rfl); done)), _, (by (simp only [Act.put, List.setIfInBounds_toArray, List.set_cons_zero, List.set_cons_succ]; rfl)), ?_⟩
      refine mx_val (by kernel_rfl) ⟨_, (by (intro w' hC; (have q := (x3.below hC).cell 3; simp only [List.getElem?_toArray, List.getElem?_cons_zero, List.getElem?_cons_succ] at q); clear hC; (try go_simp); (try with_reducible rfl); done)), _, (by (simp only [Act.put, List.setIfInBounds_toArray, List.set_cons_zero, List.set_cons_succ]; rfl)), ?_⟩
      refine mx_alone ((Below.refl _ _).drew) (by kernel_rfl) ⟨_, _, (by (go_simp; first | done | exact ⟨rfl, rfl⟩)), _, (by (simp only [Act.put, List.setIfInBounds_toArray, List.set_cons_zero, List.set_cons_succ]; rfl)), ?_⟩
      refine mx_wp ((Below.refl _ _).drew.alloc (Nat.le_refl _) _) (by kernel_rfl) (wp_append_any _ (.tmp 26) (.tmp 28) 33 rfl w3.heap.size 5 i0 _ 1 1 Tryz.underlying33 hi0 hz0 hz1 hz2 rfl (by omega) (.slice (some ⟨w3.heap.size, 0, none⟩) 0 0) 0 [] rfl (World.ownsRow_lit (base := w3.heap.size) (e := 5) (size := 1) w3 #[] 0 (Nat.le_refl _) (by simp [maxLen]) (by simp)) _ lv.x.A lv.x.l.length lv.x.c (lv.x.l.map bv) rfl ((hlv3.out.drew).alloc _) (bv_one _) (by simp only [maxLen]; omega) (by omega) (by simp) ?_)
      intro v4 w4 ho4 hg4 hat4
      obtain ⟨A4, c4, rfl, hjk⟩ := own_form ho4
      clear hjk hat4
      have hX4 := ((Below.refl w3.heap.size w3).alloc (Nat.le_refl _) (.cells #[] 5)).drew
      have hb4 : Below w3.heap.size w3 w4 := hX4.trans (grown_below hg4 hX4.size (fun g hg => by
        have e : w3.heap.size = g := by simpa [Value.ownBlock] using hg
        omega))
      rw [show 0 + lv.x.l.length = lv.x.l.length from Nat.zero_add _, List.nil_append] at ho4
      rw [show 0 + lv.x.l.length = lv.x.l.length from Nat.zero_add _]
      have HO4 := Lib.hid ho4
      clear ho4 hg4 hX4
      simp only [Act.put, List.setIfInBounds_toArray, List.set_cons_zero, List.set_cons_succ]
      refine mx_wp hb4 (by kernel_rfl) (wp_append_any _ (.tmp 29) (.tmp 31) 33 rfl w3.heap.size 5 i0 _ 1 1 Tryz.underlying33 hi0 hz0 hz1 hz2 rfl (by omega) (.slice A4 lv.x.l.length c4) lv.x.l.length (lv.x.l.map bv) rfl HO4.out _ dA dl.length dc (dl.map bv) rfl ((hd3.out.below hb4)) (bv_one _) (by simp only [maxLen]; omega) (by omega) hb4.size ?_)
      intro v5 w5 ho5 hg5 hat5
      obtain ⟨A5, c5, rfl, hjk⟩ := own_form ho5
      clear hjk hat5
      have hb5 : Below w3.heap.size w3 w5 := hb4.trans (grown_below hg5 hb4.size (fun g hg => (HO4.out.lt _ hg).1))
      have hown5 : OwB w5 w3.heap.size (.slice A5 (lv.x.l ++ dl).length c5) (lv.x.l ++ dl) := by
        unfold OwB
        rw [List.length_append, List.map_append]
        exact ho5
      rw [← List.length_append]
      have HO5 := Lib.hid hown5
      clear ho5 hg5 hown5 HO4 hb4
      simp only [Act.put, List.setIfInBounds_toArray, List.set_cons_zero, List.set_cons_succ]
      refine mx_end hb5 ?_
      have x5 := x3.below hb5
      have q0 := x5.cell 0
      have q1 := x5.cell 1
      have q3 := x5.cell 3
      have f3 := x5.frozen 3
      have hw5 := hw3.trans (hb5.mono hw3.size)
      have hO5 : OwB w5 w.heap.size (.slice A5 (lv.x.l ++ dl).length c5) (lv.x.l ++ dl) := own_base HO5.out (fun g hg => Nat.le_trans hw3.size (HO5.out.lt g hg).1)
      have x6 := x5.set_ 3 (.slice A5 (lv.x.l ++ dl).length c5)
      have ho6 : OwB (w5.setCell ⟨w.heap.size, 3, none⟩ (.slice A5 (lv.x.l ++ dl).length c5)) w.heap.size (.slice A5 (lv.x.l ++ dl).length c5) (lv.x.l ++ dl) := own_fr hO5 ((Fr.refl (fun g => g = w.heap.size) w5).setAt w.heap.size 3 rfl _) (fun g hg e => x5.own_ne hO5 (by decide) (by rw [hg, e]))
      have hw6 : Below w.heap.size w (w5.setCell ⟨w.heap.size, 3, none⟩ (.slice A5 (lv.x.l ++ dl).length c5)) := hw5.setCell (p := ⟨w.heap.size, 3, none⟩) (Nat.le_refl _) _
      obtain ⟨A6, c6, e6, hlc, hcm, _⟩ := own_form ho6
      obtain ⟨rfl, rfl⟩ : A5 = A6 ∧ c5 = c6 := by simpa using e6
      have hok6 : BV.ok (w5.setCell ⟨w.heap.size, 3, none⟩ (.slice A5 (lv.x.l ++ dl).length c5)) (fun _ => True) ⟨A5, c5, lv.x.l ++ dl⟩ := ⟨ho6.rd.mono (fun _ _ _ => trivial), hlc, hcm⟩
      simp only [List.getElem?_toArray, List.getElem?_cons_zero, List.getElem?_cons_succ] at q0 q1 q3
      simp only [List.setIfInBounds_toArray, List.set_cons_zero, List.set_cons_succ] at x6
      have HX6 := Lib.hid x6
      have HK6 := Lib.hid hok6
      have HW6 := Lib.hid hw6
      obtain ⟨D, hD⟩ : ∃ D, D = lv.x.l ++ dl := ⟨_, rfl⟩
      rw [← hD] at HR HX6 HK6 HW6 ⊢
      clear hO5 ho6 hw6 hok6 x6 HO5 hb5 x3 lb3 hw3 hlv3 hd3 e6 hlc hcm
      by_cases h9 : 4096 < D.length
      · obtain rfl : R = ([], 13) := by rw [HR.out, if_pos h9]
        have h10 : (4096 : Int) < (D.length : Int) := by omega
        clear HR hD
        go_wp2_with fail
        go_ret2
        exact ⟨none, 0, [], rfl, rfl, Its.nil _, HW6.out⟩
      · replace HR : Hid (R = ([(p, (1, D))], 0)) := Lib.hid (by rw [HR.out, if_neg h9])
        have h10 : (D.length : Int) ≤ 4096 := by omega
        have h11 : D.length ≤ 140737488355328 := by omega
        have e5 : (w5.setCell ⟨w.heap.size, 3, none⟩ (.slice A5 D.length c5)).heap.size = w5.heap.size := by simp [World.setCell]
        have hi0 := OwI.itsR (w0 := w5.setCell ⟨w.heap.size, 3, none⟩ (.slice A5 D.length c5)) (OwI.lit (w := w5.setCell ⟨w.heap.size, 3, none⟩ (.slice A5 D.length c5)) (base := w.heap.size) ((p, ⟨1, ⟨A5, c5, D⟩⟩) : List UInt8 × LV) HW6.out.size) (fun x hx => by rw [List.mem_singleton.1 hx]; exact ⟨HK6.out, hp, h11⟩) (by simp) ((Below.refl _ _).alloc (Nat.le_refl _) _)
        rw [e5] at hi0
        have HI := Lib.hid hi0
        have HP : Hid (plainL [((p, ⟨1, ⟨A5, c5, D⟩⟩) : List UInt8 × LV)] = R.1) := Lib.hid (by rw [HR.out]; rfl)
        have hR2 : R.2 = 0 := by rw [HR.out]
        have HR2 := Lib.hid hR2
        have HW := Lib.hid (HW6.out.alloc HW6.out.size (.cells #[.string ⟨⟨p⟩⟩, .int .i64 1, .slice A5 D.length c5] 51))
        have hq0 := HX6.out.cell 0
        have hq1 := HX6.out.cell 1
        have hq3 := HX6.out.cell 3
        simp only [List.getElem?_toArray, List.getElem?_cons_zero, List.getElem?_cons_succ] at hq0 hq1 hq3
        clear hR2 hi0 hD e5
        go_wp2_with fail
        go_ret2
        exact ⟨some ⟨w5.heap.size, 0, none⟩, 1, _, by rw [HR2.out]; rfl, HP.out, HI.out, HW.out⟩
  · replace HR : Hid (R = ([(p, (2, []))], 0)) := Lib.hid (by rw [HR.out]; unfold planS; simp)
    clear hlk hld
    have hw0 : Below w.heap.size w (w.alloc (.cells #[.int .i64 3, .string ⟨⟨p⟩⟩, .string ⟨⟨t⟩⟩, .slice dA dl.length dc] 35)) := (by repeat (first | exact Below.refl _ _ | refine Below.alloc ?_ (by simp) _ | refine Below.setCell ?_ (by simp) _ | refine Below.drew ?_))
    have x0 := Blk.new w 35 #[.int .i64 3, .string ⟨⟨p⟩⟩, .string ⟨⟨t⟩⟩, .slice dA dl.length dc]
    have q1 := x0.cell 1
    simp only [List.getElem?_toArray, List.getElem?_cons_zero, List.getElem?_cons_succ] at q1
    go_enter Tryz.func64, Tryz.ntmps64
    go_wp2_with fail
    refine (refGetV B d L p _ (HT.out.below hw0) hp).mono ?_
    rintro e w1 ⟨rfl, hb1⟩
    have x1 := x0.below hb1
    have hw1 := hw0.trans (hb1.mono hw0.size)
    clear q1 hb1 x0
    have hwb : Below w1.heap.size w1 (w1.alloc (.cells #[.int .i64 lv.k, .slice lv.x.A lv.x.l.length lv.x.c] 49)) := (Below.refl _ _).alloc (Nat.le_refl _) _
    have lb := Blk.new w1 49 #[.int .i64 lv.k, .slice lv.x.A lv.x.l.length lv.x.c]
    rw [HLV.out]
    have x2 := x1.below hwb
    have hw2 := hw1.trans (hwb.mono hw1.size)
    have q0 := x2.cell 0
    have q1 := x2.cell 1
    have q2 := x2.cell 2
    have q3 := x2.cell 3
    have r0 := lb.cell 0
    have r1 := lb.cell 1
    simp only [List.getElem?_toArray, List.getElem?_cons_zero, List.getElem?_cons_succ] at q0 q1 q2 q3 r0 r1
    have hd3 : (dl.length : Int) ≤ 4096 := by omega
    clear hwb lb r0 r1 x1 x2
    have hi0 := OwI.itsR (w0 := _) (OwI.lit (w := _) (base := w.heap.size) ((p, ⟨2, ⟨none, 0, []⟩⟩) : List UInt8 × LV) hw2.size) (fun x hx => by rw [List.mem_singleton.1 hx]; exact ⟨⟨Rd.nil, by simp, by simp [maxLen]⟩, hp, by simp⟩) (by simp) ((Below.refl _ _).alloc (Nat.le_refl _) _)
    rw [show (w1.alloc (.cells #[.int .i64 lv.k, .slice lv.x.A lv.x.l.length lv.x.c] 49)).heap.size = w1.heap.size + 1 by simp] at hi0
    have HI := Lib.hid hi0
    have HP : Hid (plainL [((p, ⟨2, ⟨none, 0, []⟩⟩) : List UInt8 × LV)] = R.1) := Lib.hid (by rw [HR.out]; rfl)
    have hR2 : R.2 = 0 := by rw [HR.out]
    have HR2 := Lib.hid hR2
    have HW := Lib.hid (hw2.alloc hw2.size (.cells #[.string ⟨⟨((p, ⟨2, ⟨none, 0, []⟩⟩) : List UInt8 × LV).1⟩⟩, .int .i64 ((p, ⟨2, ⟨none, 0, []⟩⟩) : List UInt8 × LV).2.k, .slice ((p, ⟨2, ⟨none, 0, []⟩⟩) : List UInt8 × LV).2.x.A ((p, ⟨2, ⟨none, 0, []⟩⟩) : List UInt8 × LV).2.x.l.length ((p, ⟨2, ⟨none, 0, []⟩⟩) : List UInt8 × LV).2.x.c] 51))
    clear hR2 hi0
    go_wp2_with fail
    go_ret2
    exact ⟨some ⟨w1.heap.size + 1, 0, none⟩, 1, _, by rw [HR2.out]; rfl, HP.out, HI.out, HW.out⟩
  · have hd3 : (dl.length : Int) ≤ 4096 := by omega
    by_cases h0 : lv.k = 0
    · replace HR : Hid (R = ([], 20)) := Lib.hid (by rw [HR.out]; unfold planS; simp [h0, hlk])
      have h0b : (lv.k == 0) = true := by simpa using h0
      clear h0
      clear hlk hld
      have hw0 : Below w.heap.size w (w.alloc (.cells #[.int .i64 4, .string ⟨⟨p⟩⟩, .string ⟨⟨t⟩⟩, .slice dA dl.length dc] 35)) := (by repeat (first | exact Below.refl _ _ | refine Below.alloc ?_ (by simp) _ | refine Below.setCell ?_ (by simp) _ | refine Below.drew ?_))
      have x0 := Blk.new w 35 #[.int .i64 4, .string ⟨⟨p⟩⟩, .string ⟨⟨t⟩⟩, .slice dA dl.length dc]
      have q1 := x0.cell 1
      simp only [List.getElem?_toArray, List.getElem?_cons_zero, List.getElem?_cons_succ] at q1
      go_enter Tryz.func64, Tryz.ntmps64
      go_wp2_with fail
      refine (refGetV B d L p _ (HT.out.below hw0) hp).mono ?_
      rintro e w1 ⟨rfl, hb1⟩
      have x1 := x0.below hb1
      have hw1 := hw0.trans (hb1.mono hw0.size)
      clear q1 hb1 x0
      have hwb : Below w1.heap.size w1 (w1.alloc (.cells #[.int .i64 lv.k, .slice lv.x.A lv.x.l.length lv.x.c] 49)) := (Below.refl _ _).alloc (Nat.le_refl _) _
      have lb := Blk.new w1 49 #[.int .i64 lv.k, .slice lv.x.A lv.x.l.length lv.x.c]
      rw [HLV.out]
      have x2 := x1.below hwb
      have hw2 := hw1.trans (hwb.mono hw1.size)
      have q0 := x2.cell 0
      have q1 := x2.cell 1
      have q2 := x2.cell 2
      have q3 := x2.cell 3
      have r0 := lb.cell 0
      have r1 := lb.cell 1
      simp only [List.getElem?_toArray, List.getElem?_cons_zero, List.getElem?_cons_succ] at q0 q1 q2 q3 r0 r1
      go_wp2_with fail
      go_ret2
      exact ⟨none, 0, [], by rw [HR.out]; rfl, by show _ = _; rw [HR.out]; rfl, Its.nil _, hw2⟩
    · replace HR : Hid (R = (goneS T p, 0)) := Lib.hid (by rw [HR.out]; unfold planS; simp [h0, hlk])
      have h0b : (lv.k == 0) = false := by simpa using h0
      clear hlk hld
      have hw0 : Below w.heap.size w (w.alloc (.cells #[.int .i64 4, .string ⟨⟨p⟩⟩, .string ⟨⟨t⟩⟩, .slice dA dl.length dc] 35)) := (by repeat (first | exact Below.refl _ _ | refine Below.alloc ?_ (by simp) _ | refine Below.setCell ?_ (by simp) _ | refine Below.drew ?_))
      have x0 := Blk.new w 35 #[.int .i64 4, .string ⟨⟨p⟩⟩, .string ⟨⟨t⟩⟩, .slice dA dl.length dc]
      have q1 := x0.cell 1
      simp only [List.getElem?_toArray, List.getElem?_cons_zero, List.getElem?_cons_succ] at q1
      go_enter Tryz.func64, Tryz.ntmps64
      go_wp2_with fail
      refine (refGetV B d L p _ (HT.out.below hw0) hp).mono ?_
      rintro e w1 ⟨rfl, hb1⟩
      have x1 := x0.below hb1
      have hw1 := hw0.trans (hb1.mono hw0.size)
      clear q1 hb1 x0
      have hwb : Below w1.heap.size w1 (w1.alloc (.cells #[.int .i64 lv.k, .slice lv.x.A lv.x.l.length lv.x.c] 49)) := (Below.refl _ _).alloc (Nat.le_refl _) _
      have lb := Blk.new w1 49 #[.int .i64 lv.k, .slice lv.x.A lv.x.l.length lv.x.c]
      rw [HLV.out]
      have x2 := x1.below hwb
      have hw2 := hw1.trans (hwb.mono hw1.size)
      have q0 := x2.cell 0
      have q1 := x2.cell 1
      have q2 := x2.cell 2
      have q3 := x2.cell 3
      have r0 := lb.cell 0
      have r1 := lb.cell 1
      simp only [List.getElem?_toArray, List.getElem?_cons_zero, List.getElem?_cons_succ] at q0 q1 q2 q3 r0 r1
      have HG := Lib.hid (goneR_any B d L p _ (HT.out.below hw2) HLL.out hp)
      rw [hTT.out] at HG
      go_wp2_with fail
      refine HG.out.mono ?_
      rintro e w3 ⟨A3, c3, M3, rfl, hM3, hO3, hb3⟩
      have hw3 := hw2.trans (hb3.mono hw2.size)
      have HP : Hid (plainL M3 = R.1) := Lib.hid (by rw [HR.out, hM3.out])
      have HI : Hid (Its w3 A3 M3) := Lib.hid (hO3.itsS hM3 (gone_small HOK.out hp) (by have := gone_len HOK.out p; omega))
      have hR2 : R.2 = 0 := by rw [HR.out]
      have HR2 := Lib.hid hR2
      clear hR2 hM3 hO3 HR HG
      go_wp2_with fail
      go_ret2
      exact ⟨A3, c3, M3, by rw [HR2.out]; rfl, HP.out, HI.out, hw3⟩
  · have hd3 : (dl.length : Int) ≤ 4096 := by omega
    by_cases h0 : lv.k = 0
    · replace HR : Hid (R = ([], 20)) := Lib.hid (by rw [HR.out]; unfold planS; simp [h0, hlk])
      have h0b : (lv.k == 0) = true := by simpa using h0
      clear h0
      clear hlk hld
      have hw0 : Below w.heap.size w (w.alloc (.cells #[.int .i64 5, .string ⟨⟨p⟩⟩, .string ⟨⟨t⟩⟩, .slice dA dl.length dc] 35)) := (by repeat (first | exact Below.refl _ _ | refine Below.alloc ?_ (by simp) _ | refine Below.setCell ?_ (by simp) _ | refine Below.drew ?_))
      have x0 := Blk.new w 35 #[.int .i64 5, .string ⟨⟨p⟩⟩, .string ⟨⟨t⟩⟩, .slice dA dl.length dc]
      have q1 := x0.cell 1
      simp only [List.getElem?_toArray, List.getElem?_cons_zero, List.getElem?_cons_succ] at q1
      go_enter Tryz.func64, Tryz.ntmps64
      go_wp2_with fail
      refine (refGetV B d L p _ (HT.out.below hw0) hp).mono ?_
      rintro e w1 ⟨rfl, hb1⟩
      have x1 := x0.below hb1
      have hw1 := hw0.trans (hb1.mono hw0.size)
      clear q1 hb1 x0
      have hwb : Below w1.heap.size w1 (w1.alloc (.cells #[.int .i64 lv.k, .slice lv.x.A lv.x.l.length lv.x.c] 49)) := (Below.refl _ _).alloc (Nat.le_refl _) _
      have lb := Blk.new w1 49 #[.int .i64 lv.k, .slice lv.x.A lv.x.l.length lv.x.c]
      rw [HLV.out]
      have x2 := x1.below hwb
      have hw2 := hw1.trans (hwb.mono hw1.size)
      have q0 := x2.cell 0
      have q1 := x2.cell 1
      have q2 := x2.cell 2
      have q3 := x2.cell 3
      have r0 := lb.cell 0
      have r1 := lb.cell 1
      simp only [List.getElem?_toArray, List.getElem?_cons_zero, List.getElem?_cons_succ] at q0 q1 q2 q3 r0 r1
      go_wp2_with fail
      go_ret2
      exact ⟨none, 0, [], by rw [HR.out]; rfl, by show _ = _; rw [HR.out]; rfl, Its.nil _, hw2⟩
    · replace HR : Hid (R = movedS T p t) := Lib.hid (by rw [HR.out]; unfold planS; simp [h0, hlk])
      have h0b : (lv.k == 0) = false := by simpa using h0
      clear hlk hld
      have hltk : (lvO (getR L t)).k = kindL (getR T t) := by have := congrArg Prod.fst (lvO_p L t); rw [hTT.out] at this; exact this
      have hfld := fun (k : Int) (v : Value) (w : World) => leaf_kind k v w
      have hw0 : Below w.heap.size w (w.alloc (.cells #[.int .i64 5, .string ⟨⟨p⟩⟩, .string ⟨⟨t⟩⟩, .slice dA dl.length dc] 35)) := (by repeat (first | exact Below.refl _ _ | refine Below.alloc ?_ (by simp) _ | refine Below.setCell ?_ (by simp) _ | refine Below.drew ?_))
      have x0 := Blk.new w 35 #[.int .i64 5, .string ⟨⟨p⟩⟩, .string ⟨⟨t⟩⟩, .slice dA dl.length dc]
      have q1 := x0.cell 1
      simp only [List.getElem?_toArray, List.getElem?_cons_zero, List.getElem?_cons_succ] at q1
      go_enter Tryz.func64, Tryz.ntmps64
      go_wp2_with fail
      refine (refGetV B d L p _ (HT.out.below hw0) hp).mono ?_
      rintro e w1 ⟨rfl, hb1⟩
      have x1 := x0.below hb1
      have hw1 := hw0.trans (hb1.mono hw0.size)
      clear q1 hb1 x0
      have hwb : Below w1.heap.size w1 (w1.alloc (.cells #[.int .i64 lv.k, .slice lv.x.A lv.x.l.length lv.x.c] 49)) := (Below.refl _ _).alloc (Nat.le_refl _) _
      have lb := Blk.new w1 49 #[.int .i64 lv.k, .slice lv.x.A lv.x.l.length lv.x.c]
      rw [HLV.out]
      have x2 := x1.below hwb
      have hw2 := hw1.trans (hwb.mono hw1.size)
      have q0 := x2.cell 0
      have q1 := x2.cell 1
      have q2 := x2.cell 2
      have q3 := x2.cell 3
      have r0 := lb.cell 0
      have r1 := lb.cell 1
      simp only [List.getElem?_toArray, List.getElem?_cons_zero, List.getElem?_cons_succ] at q0 q1 q2 q3 r0 r1
      have x3 := x2
      have hw3 := hw2
      have lb3 := lb
      have HGT := Lib.hid (refGetV B d L t _ (HT.out.below hw2) ht)
      rw [hltk] at HGT
      by_cases hkt : kindL (getR T t) = 0
      · obtain ⟨hgp, hgt⟩ := hg (by first | rfl | trivial)
        replace HR : Hid (R = if (treeS T p).all (fun q => (moveT q p t).2) = true then ((treeS T p).map (fun q => ((moveT q p t).1, leafS T q)) ++ goneS T p, 0) else ([], 23)) := Lib.hid (by rw [HR.out]; unfold movedS; rw [if_neg (by simpa using hkt)])
        rw [hkt] at HGT
        have HB := Lib.hid (fun W (hW : Below w.heap.size w W) => refBelow_any B d L p W (HT.out.below hW) hp)
        have h52 := fun W => Lib.hid (show (Instr.field 49 (.agg #[.int .i64 0, .slice (lvO (getR L t)).x.A (lvO (getR L t)).x.l.length (lvO (getR L t)).x.c]) 0).run Tryz.prog W = .ok (.int .i64 0) W by kernel_rfl)
        clear hkt hltk h52
        go_wp2_with fail
        refine HGT.out.mono ?_
        rintro e w4 ⟨rfl, hb4⟩
        have x4 := x3.below hb4
        have hw4 := hw3.trans (hb4.mono hw3.size)
        have lb4 := lb3.below hb4
        have q0 := x4.cell 0
        have q1 := x4.cell 1
        have q2 := x4.cell 2
        have q3 := x4.cell 3
        have r0 := lb4.cell 0
        have r1 := lb4.cell 1
        simp only [List.getElem?_toArray, List.getElem?_cons_zero, List.getElem?_cons_succ] at q0 q1 q2 q3 r0 r1
        clear hb4 x3 x2 x1 hw2 hw1 hwb lb lb3 HGT hw0 hw3
        generalize (lvO (getR L t)).x = tx at *
        obtain ⟨y0, hy0⟩ : ∃ y0 : List UInt8 × LV, y0 = (t, lv) := ⟨_, rfl⟩
        have hl0 := OwI.lit (w := w4) (base := w.heap.size) ((t, lv) : List UInt8 × LV) hw4.size
        have hbl : Below w4.heap.size w4 (w4.alloc (.cells #[.string ⟨⟨t⟩⟩, .int .i64 lv.k, .slice lv.x.A lv.x.l.length lv.x.c] 51)) := (Below.refl _ _).alloc (Nat.le_refl _) _
        have HL0 := Lib.hid hl0
        have hw5 := hw4.trans (hbl.mono hw4.size)
        have x5 := x4.below hbl
        have s1 := x5.cell 1
        simp only [List.getElem?_toArray, List.getElem?_cons_zero, List.getElem?_cons_succ] at s1
        clear hl0
        go_wp2_with fail
        refine (HB.out _ hw5).mono ?_
        rintro e w6 ⟨⟨A6, c6, l, rfl, hl, ho6⟩, hb6⟩
        have hw6 := hw5.trans (hb6.mono hw5.size)
        have x6 := x5.below hb6
        have HL6 := Lib.hid (own_below HL0.out hb6)
        have HO := Lib.hid (own_base ho6 (base' := w.heap.size) (fun g hg => Nat.le_trans hw5.size (ho6.lt g hg).1))
        have hSS : treeS T p = p :: l := by rw [hl.out, ← hTT.out]; unfold treeS; rw [keys_plain]
        have hll : l.length ≤ 128 := by have := tree_len HOK.out p; rw [hSS, List.length_cons] at this; omega
        have HS := Lib.hid hSS
        have hmt := move_top hgp hgt
        have HM0 : Hid (plainL [((t, lv) : List UInt8 × LV)] = ((p :: l).take 1).map fun q => ((moveT q p t).1, leafS T q)) := Lib.hid (by
          show [(t, lv.p)] = [((moveT p p t).1, leafS T p)]
          rw [hmt, HLP.out])
        have HA0 : Hid (((p :: l).take 1).all (fun q => (moveT q p t).2) = true) := Lib.hid (by
          show (((moveT p p t).2) && true) = true
          rw [hmt]; rfl)
        have hbr : w4.heap.size + 1 = (w4.alloc (.cells #[.string ⟨⟨t⟩⟩, .int .i64 lv.k, .slice lv.x.A lv.x.l.length lv.x.c] 51)).heap.size := by simp
        have hLO := lvO_okl HT.out p HLL.out HOK.out hTT
        rw [HLV.out] at hLO
        clear q0 q1 q2 q3 r0 r1 s1 hl ho6 hb6 hSS hmt hbl hbr hw5 x5 x4 lb4 HL0 hw4 HB
        have hb0 : (w4.heap.size) = (w4.heap.size) := rfl
        go_wp2_with fail
        go_loopw [7, 9] (fun ov iv wr => ∃ (i : Nat) (A : Option Addr) (c : Nat) (M : List (List UInt8 × LV)), i ≤ l.length ∧ iv = .int .i64 (i : Int) ∧ ov = .slice A M.length c ∧ Hid (plainL M = ((p :: l).take (i + 1)).map fun q => ((moveT q p t).1, leafS T q)) ∧ Hid (((p :: l).take (i + 1)).all (fun q => (moveT q p t).2) = true) ∧ M.length = i + 1 ∧ OwI wr w.heap.size A c M ∧ (∀ x ∈ M, x.2.x.ok w (fun _ => True) ∧ x.1.length ≤ 1048576 ∧ x.2.x.l.length ≤ 140737488355328) ∧ Blk wr w.heap.size 35 #[.int .i64 5, .string ⟨⟨p⟩⟩, .string ⟨⟨t⟩⟩, .slice dA dl.length dc] ∧ wr.ownsRow w.heap.size 9 1 (.slice A6 l.length c6) l.length (l.map stv) ∧ Below w.heap.size w wr) (fun _ iv _ => l.length - (intOf iv).toNat)
        case atStart => exact ⟨0, some ⟨w4.heap.size, 0, none⟩, 1, [(t, lv)], Nat.zero_le _, rfl, rfl, HM0, HA0, rfl, HL6.out, fun x hx => by rw [List.mem_singleton.1 hx]; exact ⟨hLO.1, ht, hLO.2⟩, x6, HO.out, hw6⟩
        case round =>
          obtain ⟨i, A, c, M, hi, rfl, rfl, hM, hall, hMi, hO, hokM, xr, hor, hwr⟩ := hrel
          have hMe := Lib.hid hMi
          have hHO := Lib.hid hO
          have hOKM := Lib.hid hokM
          have HOR := Lib.hid hor
          clear hMi hO hokM HL6 hor HO
          by_cases hlt : i < l.length
          · obtain ⟨b, off, hA, hbb, c0⟩ := rtxt_at (own_txt HOR.out) hlt
            have hlt2 : i + 1 < (p :: l).length := by rw [List.length_cons]; omega
            have hts := List.take_succ_eq_append_getElem hlt2
            have hge : (p :: l)[i + 1] = l[i] := rfl
            rw [hge] at hts
            have hqk : l[i] ∈ treeS T p := by rw [HS.out]; exact List.mem_cons_of_mem _ (List.getElem_mem hlt)
            have hql : l[i].length ≤ 1048576 := by
              unfold treeS at hqk
              rcases List.mem_cons.1 hqk with e | e
              · rw [e]; exact hp
              · obtain ⟨y, hy, e2⟩ := List.mem_map.1 (List.mem_filter.1 e).1
                rw [← e2]
                have := goodB_len (HOK.out.good y hy).1
                omega
            have hnn : (moveT l[i] p t).2 = false → Hid (R = ([], 23)) := fun e => Lib.hid (by
              rw [HR.out, if_neg]
              intro ha
              have := List.all_eq_true.1 ha _ hqk
              rw [e] at this
              cases this)
            subst hA
            obtain ⟨q, hq⟩ : ∃ q, q = l[i] := ⟨_, rfl⟩
            rw [← hq] at c0 hql hts hnn
            simp only [stv] at c0
            have HMV := Lib.hid (fun W => refMove_any ⟨⟨q⟩⟩ ⟨⟨p⟩⟩ ⟨⟨t⟩⟩ (by show q.length ≤ _; omega) (by show p.length ≤ _; omega) (by show t.length ≤ _; omega) W)
            have HTS := Lib.hid hts
            have hc0 := c0
            have hbr : b < wr.heap.size := hbb
            clear hts hq hqk hge c0
            go_wp2_with fail
            refine wp_region_m [true, true, true, true, true, true, true, true, false] (fun W => Below wr.heap.size wr W) (by kernel_rfl) (by kernel_rfl) ?_
            simp only [List.length_cons, List.length_nil, Nat.zero_add, Nat.reduceAdd, List.take_succ_cons, List.take_zero, List.drop_succ_cons, List.drop_zero]
            refine mx_move _ (by kernel_rfl) rfl ⟨_, (by ((try simp [go_sem]); (try rfl); done)), _, (by (simp only [Act.put, List.setIfInBounds_toArray, List.set_cons_zero, List.set_cons_succ]; rfl)), ?_⟩
            refine mx_move _ (by kernel_rfl) rfl ⟨_, (by ((try simp [go_sem]); (try rfl); done)), _, (by (simp only [Act.put, List.setIfInBounds_toArray, List.set_cons_zero, List.set_cons_succ]; rfl)), ?_⟩
            refine mx_val (by kernel_rfl) ⟨_, (by (intro w' hC; clear hC; (try go_simp); (try with_reducible rfl); done)), _, (by (simp only [Act.put, List.setIfInBounds_toArray, List.set_cons_zero, List.set_cons_succ]; rfl)), ?_⟩
            refine mx_val (by kernel_rfl) ⟨_, (by (intro w' hC; (have q := cellAt hC hbr hc0); clear hC; (try go_simp); (try with_reducible rfl); done)), _, (by (simp only [Act.put, List.setIfInBounds_toArray, List.set_cons_zero, List.set_cons_succ]; rfl)), ?_⟩
            refine mx_val (by kernel_rfl) ⟨_, (by (intro w' hC; clear hC; (try go_simp); (try with_reducible rfl); done)), _, (by (simp only [Act.put, List.setIfInBounds_toArray, List.set_cons_zero, List.set_cons_succ]; rfl)), ?_⟩
            refine mx_val (by kernel_rfl) ⟨_, (by (intro w' hC; (have q := (xr.below hC).cell 1; simp only [List.getElem?_toArray, List.getElem?_cons_zero, List.getElem?_cons_succ] at q); clear hC; (try go_simp); (try with_reducible rfl); done)), _, (by (simp only [Act.put, List.setIfInBounds_toArray, List.set_cons_zero, List.set_cons_succ]; rfl)), ?_⟩
            refine mx_val (by kernel_rfl) ⟨_, (by (intro w' hC; clear hC; (try go_simp); (try with_reducible rfl); done)), _, (by (simp only [Act.put, List.setIfInBounds_toArray, List.set_cons_zero, List.set_cons_succ]; rfl)), ?_⟩
            refine mx_val (by kernel_rfl) ⟨_, (by (intro w' hC; (have q := (xr.below hC).cell 2; simp only [List.getElem?_toArray, List.getElem?_cons_zero, List.getElem?_cons_succ] at q); clear hC; (try go_simp); (try with_reducible rfl); done)), _, (by (simp only [Act.put, List.setIfInBounds_toArray, List.set_cons_zero, List.set_cons_succ]; rfl)), ?_⟩
            refine mx_call ((Below.refl _ _).drew) (by kernel_rfl) ?_ (HMV.out wr.drew) ?_
            · (go_simp; done)
            rintro e w7 ⟨s, rfl, hs7, hb7⟩
            have hlow7 : Below wr.heap.size wr w7 := (Below.refl _ _).drew.trans (hb7.mono (Nat.le_refl _))
            clear hb7
            refine ⟨_, rfl, _, (by (simp only [Act.put, List.setIfInBounds_toArray, List.set_cons_zero, List.set_cons_succ]; rfl)), ?_⟩
            refine mx_end hlow7 ?_
            have hw7 := hwr.trans (hlow7.mono hwr.size)
            obtain ⟨⟨sl⟩⟩ := s
            replace hs7 : sl = (moveT q p t).1 := hs7.out
            by_cases hsl : sl = []
            · have h2f : (moveT q p t).2 = false := by
                rcases h2 : (moveT q p t).2 with _ | _
                · rfl
                · exact absurd (hs7.symm.trans hsl) ((move_ne q p t).1 h2)
              have hRR := hnn h2f
              obtain rfl := hRR.out
              subst hsl
              clear hRR h2f hs7 hnn
              go_wp2_with fail
              go_ret2
              exact ⟨none, 0, [], rfl, rfl, Its.nil _, hw7⟩
            · have hslb : (sl == []) = false := by simpa using hsl
              have hmt2 : (moveT q p t).2 = true := (move_ne q p t).2 (by rw [← hs7]; exact hsl)
              have hsll : sl.length ≤ 1048576 := by rw [hs7]; have := move_len q p t; omega
              have hc7 := cellAt hlow7 hbr hc0
              have HG := Lib.hid (refGetV B d L q w7 (HT.out.below hw7) hql)
              have hLq := lvO_okl HT.out q HLL.out HOK.out hTT
              have hLp : (lvO (getR L q)).p = leafS T q := by rw [lvO_p, hTT.out]
              have HAL : Hid (((p :: l).take (i + 1 + 1)).all (fun q => (moveT q p t).2) = true) := Lib.hid (by
                rw [HTS.out, List.all_append, hall.out, List.all_cons, List.all_nil, hmt2]; rfl)
              have hNN : plainL (M ++ [((sl, lvO (getR L q)) : List UInt8 × LV)]) = ((p :: l).take (i + 1 + 1)).map fun q => ((moveT q p t).1, leafS T q) := by
                rw [plain_app, hM.out, HTS.out, List.map_append, hs7]
                show _ ++ [((moveT q p t).1, (lvO (getR L q)).p)] = _
                rw [hLp]
                rfl
              generalize lvO (getR L q) = vq at *
              have HNN := Lib.hid hNN
              have hOK7 : ∀ x ∈ M ++ [((sl, vq) : List UInt8 × LV)], x.2.x.ok w (fun _ => True) ∧ x.1.length ≤ 1048576 ∧ x.2.x.l.length ≤ 140737488355328 := fun x hx => by
                rcases List.mem_append.1 hx with hx | hx
                · exact hOKM.out x hx
                · rw [List.mem_singleton.1 hx]; exact ⟨hLq.1, hsll, hLq.2⟩
              have HOK7 := Lib.hid hOK7
              clear hs7 hsl hmt2 hnn hNN hOK7 hLp hLq hM hall hc0
              go_wp2_with fail
              refine HG.out.mono ?_
              rintro e w8 ⟨rfl, hb8⟩
              have hw8 := hw7.trans (hb8.mono hw7.size)
              have hal : Below w8.heap.size w8 (w8.alloc (.cells #[.string ⟨⟨sl⟩⟩, .int .i64 vq.k, .slice vq.x.A vq.x.l.length vq.x.c] 51)) := (Below.refl _ w8).alloc (Nat.le_refl _) _
              have hO8 := Lib.hid (OwI.below (OwI.below (OwI.below hHO.out hlow7) hb8) hal)
              have hX8 := Lib.hid (((xr.below hlow7).below hb8).below hal)
              have hR8 := Lib.hid (own_below (own_below (own_below HOR.out hlow7) hb8) hal)
              have ra : Hid (Rd (w8.alloc (.cells #[.string ⟨⟨sl⟩⟩, .int .i64 vq.k, .slice vq.x.A vq.x.l.length vq.x.c] 51)) (fun _ => True) 3 (some ⟨w8.heap.size, 0, none⟩) 1 (itemC ((sl, vq) : List UInt8 × LV))) := (Rd.lit (w := w8) (t := 51) (size := 3) (n := 1) (xs := itemC ((sl, vq) : List UInt8 × LV)) rfl rfl rfl).mono (fun _ _ _ => trivial)
              have hlb := Lib.hid (show M.length + 1 ≤ 1099511627776 by have := hMe.out; omega)
              have hba := Lib.hid (hw8.trans (hal.mono hw8.size))
              clear hal hb8 hw8 hc7 hw7 hlow7 HG xr HOR hHO
              go_wp2_with (at_builtin; refine wpList_append_item rfl (.tmp 103) (.tmp 112) (t := 22) rfl rfl rfl hO8.out rfl ra.out hlb.out hba.out.size ?_; intro A9 c9 w9 ho9 hb9 hk9)
              have hf9 : Fr (fun k => (Value.slice A M.length c).ownBlock = some k) _ w9 := ⟨hb9.os, hb9.tape, hb9.output, hb9.size, hk9⟩
              have hx9 := hX8.out.fr hf9 (hX8.out.own_ne hO8.out (by decide))
              have hr9 := own_fr hR8.out hf9 (own_apart hR8.out hO8.out (by decide))
              have hw9 := hba.out.trans hb9
              have hl9 : (M ++ [((sl, vq) : List UInt8 × LV)]).length = i + 1 + 1 := by rw [List.length_append, hMe.out]; rfl
              go_roundw
              case rel => exact ⟨i + 1, A9, c9, M ++ [(sl, vq)], hlt, by go_num, by simp, HNN.out, HAL.out, hl9, ho9, HOK7.out, hx9, hr9, hw9⟩
              case measure => simp [intOf]; omega
          · have e : i = l.length := by omega
            subst e
            rw [show (p :: l).take (l.length + 1) = p :: l from List.take_of_length_le (by simp), ← HS.out] at hM hall
            have HRR : Hid (R = ((treeS T p).map (fun q => ((moveT q p t).1, leafS T q)) ++ goneS T p, 0)) := Lib.hid (by rw [HR.out, if_pos hall.out])
            have HG := Lib.hid (goneR_any B d L p wr (HT.out.below hwr) HLL.out hp)
            rw [hTT.out] at HG
            have q1 := xr.cell 1
            simp only [List.getElem?_toArray, List.getElem?_cons_zero, List.getElem?_cons_succ] at q1
            clear hall HR
            go_wp2_with fail
            refine HG.out.mono ?_
            rintro e w6 ⟨A9, c9, N, rfl, hN, hO9, hb9⟩
            have hw9 := hwr.trans (hb9.mono hwr.size)
            have hOM := Lib.hid (OwI.below hHO.out hb9)
            have hON := Lib.hid hO9
            have hNl : N.length ≤ 129 := by
              rw [← plain_len, hN.out]
              exact gone_len HOK.out p
            have hlb := Lib.hid (show M.length + N.length ≤ 1099511627776 by rw [hMe.out]; omega)
            have HP1 : Hid (plainL (M ++ N) = R.1) := Lib.hid (by rw [HRR.out, plain_app, hM.out, hN.out])
            have hR2 : R.2 = 0 := by rw [HRR.out]
            have HR2 := Lib.hid hR2
            have HNT : ∀ x ∈ N, x.1.length ≤ 1048576 ∧ x.2.x.l.length ≤ 140737488355328 := fun x hx => by
              have := gone_small HOK.out hp (x.1, x.2.p) (by rw [← hN.out]; exact List.mem_map.2 ⟨x, hx, rfl⟩)
              have h2 : x.2.x.l.length ≤ 4096 := this.2
              exact ⟨this.1, by omega⟩
            clear hO9 hM hN hR2 HG hb9 hNl q1 xr hHO HOR
            go_wp2_with (at_builtin; refine wpList_append_itemsR rfl (.tmp 114) (.tmp 118) (t := 22) rfl rfl rfl hOM.out rfl hON.out hlb.out hw9.size ?_; intro A8 c8 w8 ho8 hok8 hb8)
            have hw8 := hw9.trans hb8
            have e8 : M.length + N.length = (M ++ N).length := by simp
            go_ret2
            rw [HR2.out]
            refine ⟨A8, c8, M ++ N, ?_, HP1.out, ho8.its (fun x hx => ?_) (by rw [← e8]; exact hlb.out) (fun x hx => ?_), hw8⟩
            · rw [← e8]
              rfl
            · rcases List.mem_append.1 hx with hx | hx
              · exact (hOKM.out x hx).1.below hw8
              · exact hok8 x hx
            · rcases List.mem_append.1 hx with hx | hx
              · exact (hOKM.out x hx).2
              · exact HNT x hx
      · have hktb : (kindL (getR T t) != 0) = true := by simpa using hkt
        obtain rfl : R = ([], 21) := by rw [HR.out]; unfold movedS; rw [if_pos hkt]
        generalize kindL (getR T t) = kt at *
        clear hltk
        go_wp2_with fail
        refine HGT.out.mono ?_
        rintro e w4 ⟨rfl, hb4⟩
        have hw4 := hw3.trans (hb4.mono hw3.size)
        clear q0 q1 q2 q3 r0 r1
        go_wp2_with fail
        go_ret2
        exact ⟨none, 0, [], rfl, rfl, Its.nil _, hw4⟩

end Go.Proofs.YtedbjkmgfcnkeaaGreat

/- tenderref10: Items. -/
namespace Go.Proofs.YtedbjkmgfcnkeaaGreat
open Go.RowKit Go.Maps


set_option maxRecDepth 100000 in
set_option maxHeartbeats 4000000 in
theorem refItems10_any (B : Option Addr) (d : Nat) (L : List (List UInt8 × LV)) (k : Int) (p t : List UInt8) (dA : Option Addr) (dc : Nat) (dl : List UInt8) (Z : Nat → Prop) (w : World) (h : Its w B L) (hok : TreeOk (plainL L)) (hp : p.length ≤ 1048576) (ht : t.length ≤ 1048576) (hy : BV.ok w Z ⟨dA, dc, dl⟩) (hdl : dl.length ≤ 140737488355328) :
    Calls Tryz.prog 31 #[.slice B L.length d, .agg #[.int .i64 k, .string ⟨⟨p⟩⟩, .string ⟨⟨t⟩⟩, .slice dA dl.length dc]] w fun e w' => ∃ (A : Option Addr) (c : Nat) (M : List (List UInt8 × LV)), e = .returned (.tuple #[.slice A M.length c, .int .i64 (itemsS (plainL L) k p t dl).2]) ∧ Hid (plainL M = (itemsS (plainL L) k p t dl).1) ∧ Its w' A M ∧ Below w.heap.size w w' := by
  obtain ⟨T, hT⟩ : ∃ T, T = plainL L := ⟨_, rfl⟩
  have hTT : Hid (plainL L = T) := Lib.hid hT.symm
  rw [← hT] at hok ⊢
  obtain ⟨R, hR⟩ : ∃ R, R = itemsS T k p t dl := ⟨_, rfl⟩
  rw [← hR]
  have HR := Lib.hid hR
  have HT := Lib.hid h
  have HY := Lib.hid hy
  have HOK := Lib.hid hok
  have hw0 : Below w.heap.size w (w.alloc (.cells #[.int .i64 k, .string ⟨⟨p⟩⟩, .string ⟨⟨t⟩⟩, .slice dA dl.length dc] 35)) := (by repeat (first | exact Below.refl _ _ | refine Below.alloc ?_ (by simp) _ | refine Below.setCell ?_ (by simp) _ | refine Below.drew ?_))
  have x0 := Blk.new w 35 #[.int .i64 k, .string ⟨⟨p⟩⟩, .string ⟨⟨t⟩⟩, .slice dA dl.length dc]
  have q0 := x0.cell 0
  have q1 := x0.cell 1
  have q2 := x0.cell 2
  have q3 := x0.cell 3
  simp only [List.getElem?_toArray, List.getElem?_cons_zero, List.getElem?_cons_succ] at q0 q1 q2 q3
  obtain ⟨ck, hck⟩ : ∃ ck, ck = checkX k p t dl.length := ⟨_, rfl⟩
  have HCK := Lib.hid (fun W => editCheckR_any k p t dA dl.length dc W (by omega) (by omega) hdl)
  rw [← hck] at HCK
  have HK := Lib.hid hck
  clear h hT hR hok hy hck
  go_enter Tryz.func31, Tryz.ntmps31
  go_wp2_with fail
  refine (HCK.out _).mono ?_
  rintro e w1 ⟨rfl, hb1⟩
  have x1 := x0.below hb1
  have hw1 := hw0.trans (hb1.mono hw0.size)
  clear q0 q1 q2 q3 hb1 x0 hw0 HCK
  have q0 := x1.cell 0
  have q1 := x1.cell 1
  have q2 := x1.cell 2
  have q3 := x1.cell 3
  simp only [List.getElem?_toArray, List.getElem?_cons_zero, List.getElem?_cons_succ] at q0 q1 q2 q3
  by_cases hc0 : ck = 0
  · have hk15 : (1 ≤ k ∧ k ≤ 5 ∧ dl.length ≤ 4096) ∧ (k = 5 → goodB p = true ∧ goodB t = true) := by
      have := HK.out
      rw [hc0] at this
      unfold checkX at this
      split at this
      · cases this
      · rename_i h1
        split at this
        · cases this
        · rename_i h2
          split at this
          · cases this
          · refine ⟨by omega, fun h5 => ?_⟩
            rcases hu : userB p with _ | _
            · exact absurd (.inl hu) h1
            · rcases hu2 : userB t with _ | _
              · exact absurd (.inr ⟨h5, hu2⟩) h1
              · exact ⟨user_good hu, user_good hu2⟩
    have HR1 : Hid (R = if (planS T k p t dl).2 ≠ 0 then ([], (planS T k p t dl).2) else if (tryS T (planS T k p t dl).1).2 ≠ 0 then ([], (tryS T (planS T k p t dl).1).2) else ((planS T k p t dl).1, 0)) := Lib.hid (by
      rw [HR.out]; unfold itemsS; rw [← HK.out, if_neg (by simpa using hc0)])
    subst hc0
    have HPL := Lib.hid (planR_any B d L k p t dA dc dl Z w1 (HT.out.below hw1) (by rw [hTT.out]; exact HOK.out) hp ht (HY.out.below hw1) hk15.1.2.2 ⟨hk15.1.1, hk15.1.2.1⟩ hk15.2)
    rw [hTT.out] at HPL
    obtain ⟨S, hS⟩ : ∃ S, S = planS T k p t dl := ⟨_, rfl⟩
    rw [← hS] at HPL HR1
    have hSl := plan_small HOK.out k p t dl hp hk15.1.2.2
    rw [← hS] at hSl
    clear HR HK hS hk15
    go_wp2_with fail
    refine HPL.out.mono ?_
    rintro e w2 ⟨A, c, M, rfl, hM, hO, hb2⟩
    have hw2 := hw1.trans (hb2.mono hw1.size)
    have HO := Lib.hid hO
    have hMl : M.length ≤ 300 := by rw [← plain_len, hM.out]; exact hSl.1
    have HSM : Hid (∀ x ∈ M, x.1.length ≤ 1048576 ∧ x.2.x.l.length ≤ 140737488355328) := Lib.hid (fun x hx => by
      have := hSl.2 (x.1, x.2.p) (by rw [← hM.out]; exact List.mem_map.2 ⟨x, hx, rfl⟩)
      have h2 : x.2.x.l.length ≤ 4096 := this.2
      exact ⟨this.1, by omega⟩)
    clear hO hb2 HPL q0 q1 q2 q3 x1 hSl
    by_cases hs0 : S.2 = 0
    · have HR2 : Hid (R = if (tryS T S.1).2 ≠ 0 then ([], (tryS T S.1).2) else (S.1, 0)) := Lib.hid (by rw [HR1.out, if_neg (by simpa using hs0)])
      rw [hs0]
      rw [← hM.out] at HR2
      clear HR1 hs0 hM
      have HT2 := Lib.hid (HT.out.below hw2)
      go_wp2_with fail
      go_loopw [0, 9] (fun tv iv wr => ∃ (i : Nat) (B2 : Option Addr) (d2 : Nat) (K : List (List UInt8 × LV)), i ≤ M.length ∧ iv = .int .i64 (i : Int) ∧ tv = .slice B2 K.length d2 ∧ Its wr B2 K ∧ Hid (tryS T (plainL (M.take i)) = (plainL K, 0)) ∧ Its wr A M ∧ Below w.heap.size w wr) (fun _ iv _ => M.length - (intOf iv).toNat)
      case atStart => exact ⟨0, B, d, L, Nat.zero_le _, rfl, rfl, HT2.out, by show _ = _; rw [hTT.out]; rfl, HO.out, hw2⟩
      case round =>
        obtain ⟨i, B2, d2, K, hi, rfl, rfl, hK, hn, hOr, hb⟩ := hrel
        by_cases hlt : i < M.length
        · obtain ⟨b, off, hA, hbr, c0, c1, c2⟩ := hOr.at_ hlt
          have hxo := hOr.ok _ (List.getElem_mem hlt)
          have hps : tryS T (plainL (M.take (i + 1))) = (setS (plainL K) M[i].1 M[i].2.p, mayS (plainL K) M[i].1 M[i].2.p) := by rw [plain_snoc M i hlt, try_snoc, hn.out]; rfl
          have hst : mayS (plainL K) M[i].1 M[i].2.p ≠ 0 → tryS T (plainL M) = tryS T (plainL (M.take (i + 1))) := fun h0 => by
            have e : plainL (M.take (i + 1)) = (plainL M).take (i + 1) := by simp [plainL]
            rw [e]
            refine try_stop _ _ _ ?_
            rw [← e, hps]
            exact h0
          have hokK : TreeOk (plainL K) := by have := try_ok T (plainL (M.take i)) HOK.out; rw [hn.out] at this; exact this
          have hxl := HSM.out _ (List.getElem_mem hlt)
          subst hA
          obtain ⟨x, hx⟩ : ∃ x, x = M[i] := ⟨_, rfl⟩
          rw [← hx] at c0 c1 c2 hxo hxl hps hst
          simp only [stv] at c0
          have HPS := Lib.hid hps
          have HST := Lib.hid hst
          have HOR := Lib.hid hOr
          have HS := Lib.hid (fun W (hC : Below wr.heap.size wr W) => refSet_any B2 d2 K x.1 x.2.k x.2.x.A x.2.x.c x.2.x.l W (hK.below hC) hokK (hxo.below hC) hxl.1 hxl.2)
          obtain ⟨ms, hms⟩ : ∃ ms, ms = mayS (plainL K) x.1 (x.2.k, x.2.x.l) := ⟨_, rfl⟩
          have HMS := Lib.hid hms
          have hb' := hb
          rw [← hms] at HS
          clear hK hxo hx hps hst hn hms hOr HO hxl hokK
          go_wp2_with fail
          refine wp_region_m [true, true, true, true, true, true, true, true, true, true, true, false, true, true, true, true, true] (fun W => Below wr.heap.size wr W) (by kernel_rfl) (by kernel_rfl) ?_
          simp only [List.length_cons, List.length_nil, Nat.zero_add, Nat.reduceAdd, List.take_succ_cons, List.take_zero, List.drop_succ_cons, List.drop_zero]
          refine mx_move _ (by kernel_rfl) rfl ⟨_, (by ((try simp [go_sem]); (try rfl); done)), _, (by (simp only [Act.put, List.setIfInBounds_toArray, List.set_cons_zero, List.set_cons_succ]; rfl)), ?_⟩
          refine mx_move _ (by kernel_rfl) rfl ⟨_, (by ((try simp [go_sem]); (try rfl); done)), _, (by (simp only [Act.put, List.setIfInBounds_toArray, List.set_cons_zero, List.set_cons_succ]; rfl)), ?_⟩
          refine mx_move _ (by kernel_rfl) rfl ⟨_, (by ((try simp [go_sem]); (try rfl); done)), _, (by (simp only [Act.put, List.setIfInBounds_toArray, List.set_cons_zero, List.set_cons_succ]; rfl)), ?_⟩
          refine mx_val (by kernel_rfl) ⟨_, (by (intro w' hC; clear hC; (try go_simp); (try with_reducible rfl); done)), _, (by (simp only [Act.put, List.setIfInBounds_toArray, List.set_cons_zero, List.set_cons_succ]; rfl)), ?_⟩
          refine mx_val (by kernel_rfl) ⟨_, (by (intro w' hC; clear hC; (try go_simp); (try with_reducible rfl); done)), _, (by (simp only [Act.put, List.setIfInBounds_toArray, List.set_cons_zero, List.set_cons_succ]; rfl)), ?_⟩
          refine mx_val (by kernel_rfl) ⟨_, (by (intro w' hC; (have q := cellAt hC hbr c0); clear hC; (try go_simp); (try with_reducible rfl); done)), _, (by (simp only [Act.put, List.setIfInBounds_toArray, List.set_cons_zero, List.set_cons_succ]; rfl)), ?_⟩
          refine mx_move _ (by kernel_rfl) rfl ⟨_, (by ((try simp [go_sem]); (try rfl); done)), _, (by (simp only [Act.put, List.setIfInBounds_toArray, List.set_cons_zero, List.set_cons_succ]; rfl)), ?_⟩
          refine mx_move _ (by kernel_rfl) rfl ⟨_, (by ((try simp [go_sem]); (try rfl); done)), _, (by (simp only [Act.put, List.setIfInBounds_toArray, List.set_cons_zero, List.set_cons_succ]; rfl)), ?_⟩
          refine mx_val (by kernel_rfl) ⟨_, (by (intro w' hC; clear hC; (try go_simp); (try with_reducible rfl); done)), _, (by (simp only [Act.put, List.setIfInBounds_toArray, List.set_cons_zero, List.set_cons_succ]; rfl)), ?_⟩
          refine mx_val (by kernel_rfl) ⟨_, (by (intro w' hC; clear hC; (try go_simp); (try with_reducible rfl); done)), _, (by (simp only [Act.put, List.setIfInBounds_toArray, List.set_cons_zero, List.set_cons_succ]; rfl)), ?_⟩
          refine mx_val (by kernel_rfl) ⟨_, (by (intro w' hC; (have q := cellAt hC hbr c1; have q2 := cellAt hC hbr c2); clear hC; (try go_simp); (try with_reducible rfl); done)), _, (by (simp only [Act.put, List.setIfInBounds_toArray, List.set_cons_zero, List.set_cons_succ]; rfl)), ?_⟩
          refine mx_call ((Below.refl _ _).drew) (by kernel_rfl) ?_ (HS.out _ (Below.refl _ _).drew) ?_
          · (go_simp; done)
          rintro e w4 ⟨B3, d3, L3, rfl, hL3, hI3, hb4⟩
          replace hb4 : Below wr.heap.size wr w4 := (Below.refl _ _).drew.trans (hb4.mono (Nat.le_refl _))
          refine ⟨_, rfl, _, (by (simp only [Act.put, List.setIfInBounds_toArray, List.set_cons_zero, List.set_cons_succ]; rfl)), ?_⟩
          refine mx_move _ (by kernel_rfl) rfl ⟨_, (by ((try simp [go_sem]); (try rfl); done)), _, (by (simp only [Act.put, List.setIfInBounds_toArray, List.set_cons_zero, List.set_cons_succ]; rfl)), ?_⟩
          refine mx_val (by kernel_rfl) ⟨_, (by (intro w' hC; clear hC; (try go_simp); (try with_reducible rfl); done)), _, (by (simp only [Act.put, List.setIfInBounds_toArray, List.set_cons_zero, List.set_cons_succ]; rfl)), ?_⟩
          refine mx_val (by kernel_rfl) ⟨_, (by (intro w' hC; clear hC; (try go_simp); (try with_reducible rfl); done)), _, (by (simp only [Act.put, List.setIfInBounds_toArray, List.set_cons_zero, List.set_cons_succ]; rfl)), ?_⟩
          refine mx_assign _ (by kernel_rfl) rfl ⟨_, (by ((try simp [go_sem]); (try rfl); done)), _, (by (simp only [Act.put, List.setIfInBounds_toArray, List.set_cons_zero, List.set_cons_succ]; rfl)), ?_⟩
          refine mx_assign _ (by kernel_rfl) rfl ⟨_, (by ((try simp [go_sem]); (try rfl); done)), _, (by (simp only [Act.put, List.setIfInBounds_toArray, List.set_cons_zero, List.set_cons_succ]; rfl)), ?_⟩
          refine mx_end hb4 ?_
          have hw4 := hb'.trans (hb4.mono hb'.size)
          have HO4 := Lib.hid (HOR.out.below hb4)
          have HI3 := Lib.hid hI3
          have HL3 := Lib.hid hL3
          clear hI3 hL3 hb4 c0 c1 c2 HS HOR
          by_cases hm0 : ms = 0
          · have HN2 : Hid (tryS T (plainL (M.take (i + 1))) = (plainL L3, 0)) := Lib.hid (by
              have h5 := plain_step K x.1 x.2
              rw [show x.2.p = (x.2.k, x.2.x.l) from rfl, ← HMS.out] at h5
              rw [HPS.out]
              refine Prod.ext ?_ (HMS.out.symm.trans hm0)
              show setS (plainL K) x.1 (x.2.k, x.2.x.l) = plainL L3
              rw [← h5, HL3.out.out])
            subst hm0
            clear HPS HST HMS HL3
            go_wp2_with fail
            go_roundw
            case rel => exact ⟨i + 1, B3, d3, L3, hlt, by go_num, rfl, HI3.out, HN2, HO4.out, hw4⟩
            case measure => simp [intOf]; omega
          · have hmb : (ms != 0) = true := by simpa using hm0
            have hT2 : (tryS T (plainL M)).2 = ms := by
              rw [HST.out (by rw [show x.2.p = (x.2.k, x.2.x.l) from rfl, ← HMS.out]; exact hm0), HPS.out, HMS.out]; rfl
            obtain rfl : R = ([], ms) := by rw [HR2.out, hT2, if_pos hm0]
            clear HPS HST HMS hT2 HR2 HL3
            go_wp2_with fail
            go_ret2
            exact ⟨none, 0, [], rfl, rfl, Its.nil _, hw4⟩
        · have e : i = M.length := by omega
          subst e
          rw [List.take_length] at hn
          obtain rfl : R = (plainL M, 0) := by rw [HR2.out, hn.out, if_neg (by simp)]
          clear HR2 hn
          go_wp2_with fail
          go_ret2
          exact ⟨A, c, M, rfl, rfl, hOr, hb⟩
    · have hsb : (S.2 != 0) = true := by simpa using hs0
      obtain rfl : R = ([], S.2) := by rw [HR1.out, if_pos hs0]
      clear HR1 HO hM
      go_wp2_with fail
      go_ret2
      exact ⟨none, 0, [], rfl, rfl, Its.nil _, hw2⟩
  · have hcb : (ck != 0) = true := by simpa using hc0
    obtain rfl : R = ([], ck) := by rw [HR.out]; unfold itemsS; rw [← HK.out, if_pos hc0]
    clear HR HK
    go_wp2_with fail
    go_ret2
    exact ⟨none, 0, [], rfl, rfl, Its.nil _, hw1⟩

end Go.Proofs.YtedbjkmgfcnkeaaGreat

/- api.Edit: as an argument, in slices; tenderlaw10.Light. -/
namespace Go.Proofs.YtedbjkmgfcnkeaaGreat
open Go.RowKit Go.WideShapes Go.ChangeShapes Go.ChangeAt Go.ChangeMaps Go.Deep Go.Joins

def XV.cells (x : XV) : List Value := [.int .i64 x.k, stv x.p, stv x.t, .slice x.d.A x.d.l.length x.d.c]
theorem xv_len (x : XV) : x.cells.length = 4 := rfl
structure XV.ok (w : World) (Z : Nat → Prop) (x : XV) : Prop where
  d : x.d.ok w Z
  len : x.d.l.length ≤ 140737488355328
  p : x.p.length ≤ 140737488355328
  t : x.t.length ≤ 140737488355328
theorem XV.ok.below {w w' : World} {x : XV} (h : x.ok w (fun b => b < w.heap.size)) (k : Below w.heap.size w w') : x.ok w' (fun b => b < w'.heap.size) :=
  ⟨(h.d.below k).mono (fun _ _ hz => Nat.lt_of_lt_of_le hz k.size), h.len, h.p, h.t⟩
/-- edits as they come in -/
structure EdA (w : World) (A : Option Addr) (X : List XV) : Prop where
  rd : Rd w (fun b => b < w.heap.size) 4 A X.length (X.flatMap XV.cells)
  ok : ∀ x ∈ X, x.ok w (fun b => b < w.heap.size)
  len : X.length ≤ 140737488355328
theorem EdA.below {w w' : World} {A : Option Addr} {X : List XV} (h : EdA w A X) (k : Below w.heap.size w w') : EdA w' A X :=
  ⟨(h.rd.below k).mono (fun _ _ hz => Nat.lt_of_lt_of_le hz k.size), fun x hx => (h.ok x hx).below k, h.len⟩
theorem EdA.at_ {w : World} {A : Option Addr} {X : List XV} {i : Nat} (h : EdA w A X) (hi : i < X.length) :
    ∃ b off, A = some ⟨b, off, none⟩ ∧ b < w.heap.size ∧ w.cell? ⟨b, off + i * 4, none⟩ = some (.int .i64 X[i].k) ∧ w.cell? ⟨b, off + i * 4 + 1, none⟩ = some (stv X[i].p) ∧ w.cell? ⟨b, off + i * 4 + 2, none⟩ = some (stv X[i].t) ∧ w.cell? ⟨b, off + i * 4 + 3, none⟩ = some (.slice X[i].d.A X[i].d.l.length X[i].d.c) := by
  obtain ⟨b, off, hA, _, hb, hc⟩ := h.rd.2 (by omega)
  have hg : ∀ j, j < 4 → (X.flatMap XV.cells)[i * 4 + j]? = (XV.cells X[i])[j]? := fun j hj => flat_get (k := 4) xv_len X i j hi hj
  refine ⟨b, off, hA, hb, hc _ _ (hg 0 (by omega)), ?_, ?_, ?_⟩
  · rw [Nat.add_assoc]; exact hc _ _ (hg 1 (by omega))
  · rw [Nat.add_assoc]; exact hc _ _ (hg 2 (by omega))
  · rw [Nat.add_assoc]; exact hc _ _ (hg 3 (by omega))
/-- how many bytes -/
def XV.sz (x : XV) : Nat := x.p.length + x.t.length + x.d.l.length
def bytesX (X : List XV) : Nat := (X.map XV.sz).sum
def lightX (X : List XV) : Bool := decide (X.length ≤ 60) && decide (bytesX X ≤ 20000)
theorem bytesX_take (L : List XV) (i : Nat) (hi : i < L.length) : bytesX (L.take (i + 1)) = bytesX (L.take i) + L[i].sz := by
  unfold bytesX
  rw [List.take_succ_eq_append_getElem hi, List.map_append, List.sum_append]
  simp
theorem bytesX_le (K : Nat) : ∀ (L : List XV), (∀ o ∈ L, o.sz ≤ K) → bytesX L ≤ L.length * K
  | [], _ => by simp [bytesX]
  | o :: l, h => by
    have h1 := h o (by simp)
    have h2 := bytesX_le K l (fun o ho => h o (by simp [ho]))
    simp only [bytesX, List.map_cons, List.sum_cons, List.length_cons, Nat.add_mul] at h2 ⊢
    omega
theorem bytesX_take_le (K : Nat) (l : List XV) (i : Nat) (h : ∀ o ∈ l, o.sz ≤ K) : bytesX (l.take i) ≤ i * K := by
  have h1 := bytesX_le K (l.take i) (fun o ho => h o (List.mem_of_mem_take ho))
  have h2 : (l.take i).length ≤ i := List.length_take_le _ _
  have h3 : (l.take i).length * K ≤ i * K := Nat.mul_le_mul_right _ h2
  omega
/-- the sum that Light has made: right while few have been seen -/
def SeenX (l : List XV) (i : Nat) (s : Int) : Prop := i ≤ 60 → s = (bytesX (l.take i) : Int)
theorem sz_le {w : World} {Z : Nat → Prop} {o : XV} (h : o.ok w Z) : o.sz ≤ 422212465065984 := by
  have h1 := h.len
  have h2 := h.p
  have h3 := h.t
  unfold XV.sz
  omega
theorem seenX_step {l : List XV} {i : Nat} {s : Int} (hs : SeenX l i s) (hi : i < l.length) (h : ∀ o ∈ l, o.sz ≤ 422212465065984) : SeenX l (i + 1) (wrap64 (s + (l[i].sz : Int))) := by
  intro hi2
  have e := hs (by omega)
  have h1 := bytesX_take_le 422212465065984 l (i + 1) h
  have h2 := bytesX_take l i hi
  have h3 : (i + 1) * 422212465065984 ≤ 60 * 422212465065984 := Nat.mul_le_mul_right _ (by omega)
  rw [h2] at h1 ⊢
  rw [e, IntWalk.wrap64_in _ ⟨by omega, by omega⟩]
  omega
theorem lightX_len {L : List XV} (h : lightX L = true) : L.length ≤ 60 ∧ ∀ x ∈ L, x.p.length ≤ 20000 ∧ x.t.length ≤ 20000 ∧ x.d.l.length ≤ 20000 := by
  unfold lightX at h
  simp only [Bool.and_eq_true, decide_eq_true_eq] at h
  refine ⟨h.1, fun x hx => ?_⟩
  have h1 : x.sz ≤ bytesX L := by
    unfold bytesX
    exact le_sum _ _ (List.mem_map.2 ⟨x, hx, rfl⟩)
  unfold XV.sz at h1
  omega
section
variable {H : Type} {enc : TypeId × Value → H} {w : World} {spare : Nat → Bool} {held : Bool}
set_option maxRecDepth 100000 in
theorem open_edit {n : Nat} {cs : List Value} {x : DataW H × List MemPlace} (h : DataW.trod enc Tryz.prog w 0 spare held n 35 cs = some x) (hw : Within 35 x) :
    ∃ o : XV, cs = o.cells ∧ o.ok w (fun b => b < w.heap.size) := by
  obtain ⟨ys, n', hcl, hyl, hf⟩ := open_st Tryz.underlying35 (by kernel_rfl) h (by kernel_rfl) hw
  obtain ⟨a0, a1, a2, a3, rfl⟩ := list4 hcl
  obtain ⟨y0, y1, y2, y3, rfl⟩ := list4 hyl
  obtain ⟨k, e, _, wk⟩ := DataW.trod_int Tryz.underlying3 (hf 0 _ _ _ rfl rfl rfl).1
  obtain ⟨p, e1, hx1, _⟩ := DataW.trod_string Tryz.underlying9 (hf 1 _ _ _ rfl rfl rfl).1
  obtain ⟨t, e2, hx2, _⟩ := DataW.trod_string Tryz.underlying9 (hf 2 _ _ _ rfl rfl rfl).1
  obtain ⟨b, rfl, hb, hbl⟩ := open_bv (hf 3 _ _ _ rfl rfl rfl).1 (hf 3 _ _ _ rfl rfl rfl).2
  have w1 := (hf 1 _ _ _ rfl rfl rfl).2
  have w2 := (hf 2 _ _ _ rfl rfl rfl).2
  rw [hx1] at w1
  rw [hx2] at w2
  obtain rfl := List.singleton_inj.1 e
  obtain rfl := List.singleton_inj.1 e1
  obtain rfl := List.singleton_inj.1 e2
  exact ⟨⟨k, p.data.toList, t.data.toList, b⟩, rfl, hb, hbl, str_withini w1, str_withini w2⟩
set_option maxRecDepth 100000 in
theorem open_editv {r : Reach} {b0 : Nat} {v : Value} {d : DataW H} {p : List MemPlace} (hv : Value.okWide Tryz.prog w r b0 35 v) (h : DataW.Trod enc Tryz.prog w 0 spare held 35 v d p) (hw : Within 35 (d, p)) :
    ∃ o : XV, v = .agg #[.int .i64 o.k, .string ⟨⟨o.p⟩⟩, .string ⟨⟨o.t⟩⟩, .slice o.d.A o.d.l.length o.d.c] ∧ o.ok w (fun b => b < w.heap.size) := by
  obtain ⟨cs, rfl, hsz⟩ := okWide_struct Tryz.underlying35 hv
  obtain ⟨l⟩ := cs
  obtain ⟨n, hn⟩ := h
  obtain ⟨o, e, ho⟩ := open_edit (cs := l) hn hw
  subst e
  exact ⟨o, rfl, ho⟩
set_option maxRecDepth 100000 in
theorem open_edits {n : Nat} {v : Value} {x : DataW H × List MemPlace} (h : DataW.trod enc Tryz.prog w 0 spare held n 23 [v] = some x) (hw : Within 23 x) :
    ∃ (A : Option Addr) (c : Nat) (l : List XV), v = .slice A l.length c ∧ EdA w A l := by
  obtain ⟨A, c, l, rfl, _, _, h3, h4, h5⟩ := open_sl (w := w) (enc := enc) (spare := spare) (held := held) XV.cells (fun o => o.ok w (fun b => b < w.heap.size)) 4 64 (t := 23) (e := 35) Tryz.underlying23 (by kernel_rfl) (by kernel_rfl) (by omega) (fun n cs x hx hx2 => open_edit hx hx2) h hw
  refine ⟨A, c, l, rfl, h3, h4, ?_⟩
  have := reachBytes_lt
  omega
end
set_option maxRecDepth 100000 in
set_option maxHeartbeats 400000 in
theorem lightX_any (A : Option Addr) (c : Nat) (l : List XV) (w : World) (h : EdA w A l) :
    Calls Tryz.prog 7 #[.slice A l.length c] w fun e w' => e = .returned (.bool (lightX l)) ∧ Below w.heap.size w w' := by
  have hlen := h.len
  go_enter Tryz.func7, Tryz.ntmps7
  go_wp2_with fail
  go_loopw [3, 8] (fun sv iv wr => ∃ (i : Nat) (s : Int), i ≤ l.length ∧ iv = .int .i64 (i : Int) ∧ sv = .int .i64 s ∧ SeenX l i s ∧ Below w.heap.size w wr) (fun _ iv _ => l.length - (intOf iv).toNat)
  case atStart => exact ⟨0, 0, Nat.zero_le _, rfl, rfl, by intro _; simp [bytesX], Below.refl _ _⟩
  case round =>
    obtain ⟨i, s, hi, rfl, rfl, hs, hb⟩ := hrel
    by_cases hlt : i < l.length
    · obtain ⟨b, off, rfl, hbb, hc0, hc1, hc2, hc3⟩ := (h.below hb).at_ hlt
      have hsz := hb.size
      have hok := h.ok _ (List.getElem_mem hlt)
      have hst := Lib.hid (seenX_step hs hlt (fun o ho => sz_le (h.ok o ho)))
      generalize l[i] = o at *
      obtain ⟨k, p, t, xA, xc, xl⟩ := o
      obtain ⟨_, h1, h2, h3⟩ := hok
      dsimp only at h1 h2 h3
      have hw1 := IntWalk.wrap64_in ((p.length : Int) + (t.length : Int)) ⟨by omega, by omega⟩
      have hw2 := IntWalk.wrap64_in ((p.length : Int) + (t.length : Int) + (xl.length : Int)) ⟨by omega, by omega⟩
      simp only [stv] at *
      clear hs
      go_wp2_with fail
      go_roundw
      case rel => exact ⟨i + 1, _, hlt, by go_num, rfl, by have := hst.out; unfold XV.sz at this; push_cast at this; first | exact this | (simpa [hw1, hw2] using this), (hb.alloc hsz _)⟩
      case measure => simp [intOf]; omega
    · have e : i = l.length := by omega
      subst e
      by_cases h2 : l.length ≤ 60
      · have hss := hs (by omega)
        rw [List.take_length] at hss
        subst hss
        go_wp2
        all_goals
          go_ret
          exact ⟨ret_b (by unfold lightX; rw [Bool.eq_iff_iff]; simp; omega), hb⟩
      · go_wp2
        all_goals
          go_ret
          exact ⟨ret_b (by unfold lightX; rw [Bool.eq_iff_iff]; simp; omega), hb⟩
end Go.Proofs.YtedbjkmgfcnkeaaGreat

/- edit.Apply and tenderref10.Apply. -/
namespace Go.Proofs.YtedbjkmgfcnkeaaGreat
open Go.RowKit Go.Maps

/-- edits in blocks of Z -/
structure EdZ (w : World) (Z : Nat → Prop) (A : Option Addr) (X : List XV) : Prop where
  rd : Rd w Z 4 A X.length (X.flatMap XV.cells)
  ok : ∀ x ∈ X, x.ok w Z
  len : X.length ≤ 140737488355328
theorem EdA.z {w : World} {A : Option Addr} {X : List XV} (h : EdA w A X) : EdZ w (fun b => b < w.heap.size) A X := ⟨h.rd, h.ok, h.len⟩
theorem XV.ok.fr {w w' : World} {Z S : Nat → Prop} {x : XV} (h : x.ok w Z) (k : Fr S w w') (hz : ∀ b, b < w.heap.size → Z b → ¬ S b) : x.ok w' Z := ⟨h.d.fr k hz, h.len, h.p, h.t⟩
theorem EdZ.fr {w w' : World} {Z S : Nat → Prop} {A : Option Addr} {X : List XV} (h : EdZ w Z A X) (k : Fr S w w') (hz : ∀ b, b < w.heap.size → Z b → ¬ S b) : EdZ w' Z A X :=
  ⟨h.rd.fr k hz, fun x hx => (h.ok x hx).fr k hz, h.len⟩
theorem EdZ.mono {w : World} {Z Z' : Nat → Prop} {A : Option Addr} {X : List XV} (h : EdZ w Z A X) (hz : ∀ b, b < w.heap.size → Z b → Z' b) : EdZ w Z' A X :=
  ⟨h.rd.mono hz, fun x hx => ⟨(h.ok x hx).d.mono hz, (h.ok x hx).len, (h.ok x hx).p, (h.ok x hx).t⟩, h.len⟩
theorem EdZ.at_ {w : World} {Z : Nat → Prop} {A : Option Addr} {X : List XV} {i : Nat} (h : EdZ w Z A X) (hi : i < X.length) :
    ∃ b off, A = some ⟨b, off, none⟩ ∧ b < w.heap.size ∧ w.cell? ⟨b, off + i * 4, none⟩ = some (.int .i64 X[i].k) ∧ w.cell? ⟨b, off + i * 4 + 1, none⟩ = some (stv X[i].p) ∧ w.cell? ⟨b, off + i * 4 + 2, none⟩ = some (stv X[i].t) ∧ w.cell? ⟨b, off + i * 4 + 3, none⟩ = some (.slice X[i].d.A X[i].d.l.length X[i].d.c) := by
  obtain ⟨b, off, hA, _, hb, hc⟩ := h.rd.2 (by omega)
  have hg : ∀ j, j < 4 → (X.flatMap XV.cells)[i * 4 + j]? = (XV.cells X[i])[j]? := fun j hj => flat_get (k := 4) xv_len X i j hi hj
  refine ⟨b, off, hA, hb, hc _ _ (hg 0 (by omega)), ?_, ?_, ?_⟩
  · rw [Nat.add_assoc]; exact hc _ _ (hg 1 (by omega))
  · rw [Nat.add_assoc]; exact hc _ _ (hg 2 (by omega))
  · rw [Nat.add_assoc]; exact hc _ _ (hg 3 (by omega))
/-- one edit, and many -/
def stepA (T : List (List UInt8 × LP)) (x : XV) : List (List UInt8 × LP) := playS T (itemsS T x.k x.p x.t x.d.l).1
def errA (T : List (List UInt8 × LP)) (x : XV) : Int := (itemsS T x.k x.p x.t x.d.l).2
def applyS (T : List (List UInt8 × LP)) (X : List XV) : List (List UInt8 × LP) × List Int := X.foldl (fun R x => (stepA R.1 x, R.2 ++ [errA R.1 x])) (T, [])
theorem apply_snoc (T : List (List UInt8 × LP)) (X : List XV) (x : XV) : applyS T (X ++ [x]) = (stepA (applyS T X).1 x, (applyS T X).2 ++ [errA (applyS T X).1 x]) := by simp [applyS]
theorem apply_take (T : List (List UInt8 × LP)) (X : List XV) (i : Nat) (hi : i < X.length) : applyS T (X.take (i + 1)) = (stepA (applyS T (X.take i)).1 X[i], (applyS T (X.take i)).2 ++ [errA (applyS T (X.take i)).1 X[i]]) := by
  rw [List.take_succ_eq_append_getElem hi, apply_snoc]
theorem apply_len (T : List (List UInt8 × LP)) (X : List XV) : (applyS T X).2.length = X.length := by
  have : ∀ (X : List XV) (R : List (List UInt8 × LP) × List Int), (X.foldl (fun R x => (stepA R.1 x, R.2 ++ [errA R.1 x])) R).2.length = R.2.length + X.length := by
    intro X
    induction X with
    | nil => simp
    | cons x X ih => intro R; rw [List.foldl_cons, ih]; simp; omega
  simpa [applyS] using this X (T, [])
theorem stepA_ok {T : List (List UInt8 × LP)} (h : TreeOk T) (x : XV) : TreeOk (stepA T x) := play_ok _ _ h
/-- an edit with an error changes nothing -/
theorem stepA_err {T : List (List UInt8 × LP)} {x : XV} (h : errA T x ≠ 0) : stepA T x = T := by
  unfold stepA
  unfold errA at h
  have : (itemsS T x.k x.p x.t x.d.l).1 = [] := by
    unfold itemsS at h ⊢
    split
    · rfl
    · split
      · rfl
      · split
        · rfl
        · rename_i h1 h2 h3
          rw [if_neg h1, if_neg h2, if_neg h3] at h
          exact absurd rfl h
  rw [this]
  rfl
theorem errno_info : (Tryz.prog.info? 38).map (fun i => (i.zero, i.size, i.bytes)) = some (some (.int .i64 0), 1, 8) := by kernel_rfl
/-- a row of errors of the call's own -/
def OwE (w : World) (base : Nat) (A : Option Addr) (c : Nat) (es : List Int) : Prop := w.ownsRow base 38 1 (.slice A es.length c) es.length (es.map (Value.int .i64))
theorem wpList_append_err {w : World} {ops : Array Oper} {rest : List Oper} {o : Oper} {a : Act} {Q : Exit → Act → World → Prop} (hgd : o.guard = none) (s x : Operand)
    (ho : o.op = .call { callee := .builtin .append, args := #[s, x], argTypes := #[31, 31] })
    {base : Nat} {A : Option Addr} {c : Nat} {es : List Int} {y : Int} {g : Nat} (hs : a.eval s = .slice A es.length c) (hown : OwE w base A c es) (hx : a.eval x = .slice (some ⟨g, 0, none⟩) 1 1) (hr : Rd w (fun _ => True) 1 (some ⟨g, 0, none⟩) 1 [.int .i64 y])
    (hsum : es.length + 1 ≤ 1099511627776) (hbase : base ≤ w.heap.size)
    (h : ∀ (A' : Option Addr) (c' : Nat) (w' : World), OwE w' base A' c' (es ++ [y]) → Below base w w' → (∀ k, k < w.heap.size → (Value.slice A es.length c).ownBlock ≠ some k → w'.heap[k]? = w.heap[k]?) → wpList Tryz.prog ops Q rest (a.put o.dst (.slice A' (es.length + 1) c')) w') : wpList Tryz.prog ops Q (o :: rest) a w := by
  obtain ⟨i0, hi0, hz0, hz1, hz2⟩ := info_parts errno_info
  refine wpList_append_any w hgd s x _ ho base 38 i0 _ 1 8 Tryz.underlying31 hi0 hz0 hz1 hz2 rfl (by omega) (.slice A es.length c) es.length (es.map (Value.int .i64)) hs hown _ _ 1 1 [.int .i64 y] hx hr (by simp [Value.oneCell']) (by simp only [maxLen]; omega) (by omega) hbase ?_
  intro v' w' h1 h2 h3
  obtain ⟨A', c', rfl, _⟩ := own_form h1
  refine h A' c' w' ?_ (grown_below h2 hbase (fun g e => (hown.lt g e).1)) (fun k hk hne => h2.block k hk (fun e => hne e.symm))
  unfold OwE
  rw [List.length_append, List.map_append]
  exact h1

set_option maxRecDepth 100000 in
set_option maxHeartbeats 4000000 in
theorem editApply_any (tb : Nat) (mo : Option Nat) (L : List (List UInt8 × LV)) (A : Option Addr) (c : Nat) (X : List XV) (Z : Nat → Prop) (w : World) (h : TreeAt w tb mo L) (hX : EdZ w Z A X) (hZ : ∀ b, b < w.heap.size → Z b → ¬ (b = tb ∨ mo = some b)) (hs : X.length ≤ 60 ∧ ∀ x ∈ X, x.p.length ≤ 20000 ∧ x.t.length ≤ 20000 ∧ x.d.l.length ≤ 20000) :
    Calls Tryz.prog 10 #[.pointer (some ⟨tb, 0, none⟩), .slice A X.length c] w fun e w' => ∃ (Ae : Option Addr) (ce : Nat), e = .returned (.slice Ae X.length ce) ∧ OwE w' w.heap.size Ae ce (applyS (plainL L) X).2 ∧ TreeTo w tb mo (applyS (plainL L) X).1 w' := by
  have HT := Lib.hid h
  have HX := Lib.hid hX
  have hZZ : Hid (∀ b, b < w.heap.size → Z b → ¬ (b = tb ∨ mo = some b)) := Lib.hid hZ
  obtain ⟨T, hT⟩ : ∃ T, T = plainL L := ⟨_, rfl⟩
  have hTT : Hid (plainL L = T) := Lib.hid hT.symm
  rw [← hT]
  clear h hX hZ hT
  go_enter Tryz.func10, Tryz.ntmps10
  go_wp2_with fail
  go_loopw [4, 13] (fun ov iv wr => ∃ (i : Nat) (Ae : Option Addr) (ce : Nat) (es : List Int) (m1 : Option Nat) (K : List (List UInt8 × LV)), i ≤ X.length ∧ iv = .int .i64 (i : Int) ∧ ov = .slice Ae es.length ce ∧ OwE wr w.heap.size Ae ce es ∧ Hid (applyS T (X.take i) = (plainL K, es)) ∧ TreeAt wr tb m1 K ∧ (∀ m, m1 = some m → mo = some m ∨ w.heap.size ≤ m) ∧ Fr (fun g => g = tb ∨ mo = some g) w wr) (fun _ iv _ => X.length - (intOf iv).toNat)
  case atStart => exact ⟨0, none, 0, [], mo, L, Nat.zero_le _, rfl, rfl, World.ownsRow_nil _ _ _ _, by show _ = _; rw [hTT.out]; rfl, HT.out, fun m e => .inl e, Fr.refl _ _⟩
  case round =>
    obtain ⟨i, Ae, ce, es, m1, K, hi, rfl, rfl, hE, hn, hK, hm1, hf⟩ := hrel
    have hes : es.length = i := by
      have := apply_len T (X.take i)
      rw [hn.out, List.length_take] at this
      dsimp only at this
      omega
    by_cases hlt : i < X.length
    · have hXr := HX.out.fr hf hZZ.out
      obtain ⟨b, off, hA, hbb, c0, c1, c2, c3⟩ := hXr.at_ hlt
      have hxo := hXr.ok _ (List.getElem_mem hlt)
      have hxs := hs.2 _ (List.getElem_mem hlt)
      have hps := apply_take T X i hlt
      rw [hn.out] at hps
      subst hA
      obtain ⟨x, hx⟩ : ∃ x, x = X[i] := ⟨_, rfl⟩
      rw [← hx] at c0 c1 c2 c3 hxo hxs hps
      simp only [stv] at c1 c2
      obtain ⟨hxp, hxt, hxd⟩ := hxs
      have hba : Below wr.heap.size wr (wr.alloc (.cells #[.int .i64 x.k, .string ⟨⟨x.p⟩⟩, .string ⟨⟨x.t⟩⟩, .slice x.d.A x.d.l.length x.d.c] 35)) := (Below.refl _ _).alloc (Nat.le_refl _) _
      have xb := Blk.new wr 35 #[.int .i64 x.k, .string ⟨⟨x.p⟩⟩, .string ⟨⟨x.t⟩⟩, .slice x.d.A x.d.l.length x.d.c]
      have hK2 := hK.below hba
      have HK2 := Lib.hid hK2
      have HX2 := Lib.hid (hxo.d.below hba)
      have HE2 : Hid (OwE _ w.heap.size Ae ce es) := Lib.hid (own_below hE hba)
      have hfa : Fr (fun g => g = tb ∨ mo = some g) w (wr.alloc (.cells #[.int .i64 x.k, .string ⟨⟨x.p⟩⟩, .string ⟨⟨x.t⟩⟩, .slice x.d.A x.d.l.length x.d.c] 35)) := hf.trans (Fr.of_below hba (fun _ => False)) (fun _ _ e => e.elim)
      have q0 := xb.cell 0
      have q1 := xb.cell 1
      have q2 := xb.cell 2
      have q3 := xb.cell 3
      simp only [List.getElem?_toArray, List.getElem?_cons_zero, List.getElem?_cons_succ] at q0 q1 q2 q3
      have HPS := Lib.hid hps
      have hokK := hK.plain
      have hes2 := Lib.hid hes
      obtain ⟨R, hR⟩ : ∃ R, R = itemsS (plainL K) x.k x.p x.t x.d.l := ⟨_, rfl⟩
      have hRs := items_small hokK x.k x.p x.t x.d.l (by omega)
      have HI := Lib.hid (items_any tb m1 K x.k x.p x.t x.d.A x.d.c x.d.l Z _ hK2 (by omega) (by omega) HX2.out.1 (by omega))
      rw [← hR] at HI hRs
      have HR := Lib.hid hR
      have hsz0 := hf.size
      clear hK hK2 hxo hx hps hn hE hXr hf hes hR
      go_wp2_with fail
      refine HI.out.mono ?_
      rintro e w2 ⟨A2, c2', M, rfl, hM, hO, hb2⟩
      have HM := Lib.hid hM
      have hMl : M.length ≤ 300 := by rw [← plain_len, hM.out]; exact hRs.1
      have HSM : Hid (∀ x ∈ M, x.1.length ≤ 1048576 ∧ x.2.x.l.length ≤ 140737488355328) := Lib.hid (fun x hx => by
        have := hRs.2 (x.1, x.2.p) (by rw [← hM.out]; exact List.mem_map.2 ⟨x, hx, rfl⟩)
        have h2 : x.2.x.l.length ≤ 4096 := this.2
        exact ⟨this.1, by omega⟩)
      have hfb := hfa.trans (Fr.of_below hb2 (fun _ => False)) (fun _ _ e => e.elim)
      have HO := Lib.hid (hO.base (base' := w.heap.size) hfa.size)
      have HK3 := Lib.hid (HK2.out.below hb2)
      have HE3 : Hid (OwE w2 w.heap.size Ae ce es) := Lib.hid (own_below HE2.out hb2)
      have hsz2 := hfb.size
      clear hM hO HI hb2 q0 q1 q2 q3 xb c0 c1 c2 c3 HE2 HK2 hba hfa hRs
      go_wp2_with fail
      go_loopw [30] (fun jv wr2 => ∃ (j : Nat) (m2 : Option Nat) (K2 : List (List UInt8 × LV)), j ≤ M.length ∧ jv = .int .i64 (j : Int) ∧ TreeAt wr2 tb m2 K2 ∧ Hid (playS (plainL K) (plainL (M.take j)) = plainL K2) ∧ (∀ m, m2 = some m → mo = some m ∨ w.heap.size ≤ m) ∧ ItsOwn wr2 w.heap.size A2 c2' M ∧ OwE wr2 w.heap.size Ae ce es ∧ Fr (fun g => g = tb ∨ mo = some g) w wr2) (fun jv _ => M.length - (intOf jv).toNat)
      case atStart => exact ⟨0, m1, K, Nat.zero_le _, rfl, HK3.out, rfl, hm1, HO.out, HE3.out, hfb⟩
      case round =>
        obtain ⟨j, m2, K2, hj, rfl, hTK, hn, hm2, hOr, hEr, hb⟩ := hrel
        have hszr := hb.size
        by_cases hjl : j < M.length
        · obtain ⟨b, off, hA, hbb, c0, c1, c2⟩ := item_at (Rd.of_own hOr.row (fun _ _ _ => trivial)) hjl
          have hxo := hOr.byt _ (List.getElem_mem hjl)
          have hps : playS (plainL K) (plainL (M.take (j + 1))) = setS (plainL K2) M[j].1 M[j].2.p := by rw [plain_snoc M j hjl, play_snoc, hn.out]
          have hxl := HSM.out _ (List.getElem_mem hjl)
          subst hA
          obtain ⟨y, hy⟩ : ∃ y, y = M[j] := ⟨_, rfl⟩
          rw [← hy] at c0 c1 c2 hxo hxl hps
          simp only [stv] at c0
          have hba : Below wr.heap.size wr (wr.alloc (.cells #[.string ⟨⟨y.1⟩⟩, .int .i64 y.2.k, .slice y.2.x.A y.2.x.l.length y.2.x.c] 51)) := (Below.refl _ _).alloc (Nat.le_refl _) _
          have xb := Blk.new wr 51 #[.string ⟨⟨y.1⟩⟩, .int .i64 y.2.k, .slice y.2.x.A y.2.x.l.length y.2.x.c]
          have HT2 := Lib.hid (hTK.below hba)
          have HX1 := Lib.hid ((OwB.below hxo hba).rd)
          have HO2 := Lib.hid (hOr.below hba)
          have HE4 : Hid (OwE _ w.heap.size Ae ce es) := Lib.hid (own_below hEr hba)
          have hw4 : Fr (fun g => g = tb ∨ mo = some g) w (wr.alloc (.cells #[.string ⟨⟨y.1⟩⟩, .int .i64 y.2.k, .slice y.2.x.A y.2.x.l.length y.2.x.c] 51)) := hb.trans (Fr.of_below hba (fun _ => False)) (fun _ _ e => e.elim)
          obtain ⟨hx1, hx2⟩ := hxl
          have q0 := xb.cell 0
          have q1 := xb.cell 1
          have q2 := xb.cell 2
          simp only [List.getElem?_toArray, List.getElem?_cons_zero, List.getElem?_cons_succ] at q0 q1 q2
          have HPS2 := Lib.hid hps
          clear hTK hxo hy hps hn hOr hEr HO HE3 hb hba
          go_wp2_with fail
          refine (treeSet_any sortsT tb m2 K2 y.1 y.2.k y.2.x.A y.2.x.c y.2.x.l _ _ HT2.out HX1.out hx1 hx2).mono ?_
          rintro e w5 ⟨rfl, hto⟩
          obtain ⟨⟨m3, K3, hT3, hL3, hmo3⟩, hfr⟩ := hto
          have hw5 : Fr (fun g => g = tb ∨ mo = some g) w w5 := hw4.trans hfr (fun g hg e => by
            rcases e with e | e
            · exact .inl e
            · rcases hm2 _ e with e2 | e2
              · exact .inr e2
              · omega)
          have HO5 := Lib.hid (HO2.out.set HT2.out hfr)
          have HE5 : Hid (OwE w5 w.heap.size Ae ce es) := Lib.hid (own_fr HE4.out hfr (HT2.out.ownT HE4.out (by decide)))
          have hm4 : ∀ m, m3 = some m → mo = some m ∨ w.heap.size ≤ m := fun m e => by
            rcases hmo3 m e with e | e
            · exact hm2 m e
            · have := hw4.size; omega
          have HN2 : Hid (playS (plainL K) (plainL (M.take (j + 1))) = plainL K3) := Lib.hid (by rw [HPS2.out, hL3.out]; rfl)
          have HT3 := Lib.hid hT3
          clear hT3 hfr hL3 HT2 HX1 xb hmo3 q0 q1 q2 HPS2 c0 c1 c2 HO2 HE4 hw4
          go_wp2_with fail
          go_roundw
          case rel => exact ⟨j + 1, m3, K3, hjl, by go_num, HT3.out, HN2, hm4, HO5.out, HE5.out, hw5⟩
          case measure => simp [intOf]; omega
        · have e : j = M.length := by omega
          subst e
          rw [List.take_length, HM.out.out] at hn
          have hst : stepA (plainL K) x = plainL K2 := by unfold stepA; rw [← HR.out]; exact hn.out
          have her : errA (plainL K) x = R.2 := by unfold errA; rw [← HR.out]
          have HN3 : Hid (applyS T (X.take (i + 1)) = (plainL K2, es ++ [R.2])) := Lib.hid (by rw [HPS.out, hst, her])
          have hba : Below wr.heap.size wr (wr.alloc (.cells #[.int .i64 R.2] 38)) := (Below.refl _ _).alloc (Nat.le_refl _) _
          have HE6 : Hid (OwE (wr.alloc (.cells #[.int .i64 R.2] 38)) w.heap.size Ae ce es) := Lib.hid (own_below hEr hba)
          have HT6 := Lib.hid (hTK.below hba)
          have hf6 : Fr (fun g => g = tb ∨ mo = some g) w (wr.alloc (.cells #[.int .i64 R.2] 38)) := hb.trans (Fr.of_below hba (fun _ => False)) (fun _ _ e => e.elim)
          have ra : Hid (Rd (wr.alloc (.cells #[.int .i64 R.2] 38)) (fun _ => True) 1 (some ⟨wr.heap.size, 0, none⟩) 1 [.int .i64 R.2]) := (Rd.lit (w := wr) (t := 38) (size := 1) (n := 1) (xs := [.int .i64 R.2]) rfl rfl rfl).mono (fun _ _ _ => trivial)
          have hlb := Lib.hid (show es.length + 1 ≤ 1099511627776 by have := hes2.out; omega)
          have hlx := Lib.hid (show (es ++ [R.2]).length = i + 1 by rw [List.length_append, hes2.out]; rfl)
          have hes3 := hes2
          clear hn hst her hb hEr hTK hOr hba HPS HR HM HSM
          generalize R.2 = r2 at *
          go_wp2_with (at_builtin; refine wpList_append_err rfl (.tmp 41) (.tmp 43) rfl rfl HE6.out rfl ra.out hlb.out hf6.size ?_; intro A8 c8 w8 ho5 hb5 hk5)
          have hf8 : Fr (fun k => (Value.slice Ae es.length ce).ownBlock = some k) _ w8 := ⟨hb5.os, hb5.tape, hb5.output, hb5.size, hk5⟩
          have hT8 : TreeAt w8 tb m2 K2 := HT6.out.fr_row HE6.out (by decide) (by decide) hf8
          go_roundw
          case rel => exact ⟨i + 1, A8, c8, es ++ [r2], m2, K2, hlt, by go_num, by simp, ho5, HN3, hT8, hm2, hf6.trans hf8 (fun g hg e => by have := (HE6.out.lt _ e).1; omega)⟩
          case measure => simp [intOf]; omega
    · have e : i = X.length := by omega
      subst e
      rw [List.take_length] at hn
      go_wp2_with fail
      go_ret
      refine ⟨Ae, ce, by first | rfl | (rw [hes]; rfl), by rw [hn.out]; exact hE, ⟨m1, K, hK, by show _ = _; rw [hn.out], hm1⟩, hf⟩

end Go.Proofs.YtedbjkmgfcnkeaaGreat
