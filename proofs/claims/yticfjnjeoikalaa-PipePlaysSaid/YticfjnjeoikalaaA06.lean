/- tenderlaw16.do. -/
import Derived.Test.YticfjnjeoikalaaA05
import Derived.IntWalk

namespace Go.Proofs.Yticfjnjeoikalaa
open Go.RowKit

/-- bytes do not lie where a pipe of the document's lies -/
theorem Blk.noB16 {w : World} {g : Nat} {B : Option Addr} {n d : Nat} {y : Bool} (hb : Blk w g 29 #[.slice B n d, .bool y]) {Z : Nat → Prop} {A : Option Addr} {l : List UInt8} (hy : By w Z A l) : By w (fun b => Z b ∧ b ≠ g) A l := by
  refine ⟨hy.1, fun hn => ?_⟩
  obtain ⟨b, off, e, hz, hlt, hc⟩ := hy.2 hn
  refine ⟨b, off, e, ⟨hz, fun eb => ?_⟩, hlt, hc⟩
  subst eb
  rcases l with _ | ⟨x, l⟩
  · simp at hn
  have h1 := hc 0 (bv x) rfl
  rw [hb.cell] at h1
  rcases Nat.lt_or_ge (off + 0) 2 with h0 | h0
  · generalize off + 0 = q at *
    obtain rfl | rfl : q = 0 ∨ q = 1 := by omega
    all_goals simp [bv] at h1
  · rw [Array.getElem?_eq_none (by simpa using h0)] at h1; cases h1
theorem RefP.putR {w w' : World} {Z : Nat → Prop} {A : Option Addr} {c : Nat} {ls : List PV} {g : Nat} {B : Option Addr} {n d : Nat} {y : Bool} (h : RefP w Z A c ls) (hb : Blk w g 29 #[.slice B n d, .bool y]) (f : Fr (fun x => x = g) w w') : RefP w' Z A c ls := by
  refine ⟨?_, h.room, h.cap, fun p hp => ⟨((hb.noB16 (h.ok p hp).1).fr f (fun b _ hz e => hz.2 e)).mono (fun b _ hz => hz.1), (h.ok p hp).2⟩⟩
  refine (Rd.fr (Z := fun b => Z b ∧ b ≠ g) (S := fun x => x = g) ⟨h.rd.1, fun hn => ?_⟩ f (fun b _ hz e => hz.2 e)).mono (fun b _ hz => hz.1)
  obtain ⟨b, off, e, hz, hlt, hc⟩ := h.rd.2 hn
  refine ⟨b, off, e, ⟨hz, fun eb => ?_⟩, hlt, hc⟩
  subst eb
  rcases ls with _ | ⟨p, ls⟩
  · simp at hn
  have h1 := hc 2 (.bool p.d) rfl
  rw [hb.cell, Array.getElem?_eq_none (by simp)] at h1
  cases h1
theorem PipeAt.putR {w w' : World} {base pb c g : Nat} {X : Nat → Prop} {A : Option Addr} {ls : List PV} {cl : Bool} {B : Option Addr} {n d : Nat} {y : Bool} (h : PipeAt w base pb X A c ls cl) (hb : Blk w g 29 #[.slice B n d, .bool y]) (f : Fr (fun x => x = g) w w') (hpg : pb ≠ g) : PipeAt w' base pb X A c ls cl :=
  ⟨h.blk.fr f hpg, h.row.fr f (fun k hk e => h.row.ne_blk hb (by decide) (by rw [hk, e])), fun p hp => ⟨((hb.noB16 (h.ok p hp).1).fr f (fun b _ hz e => hz.2 e)).mono (fun b _ hz => hz.1), (h.ok p hp).2⟩, h.full⟩
/-- what a call leaves, both ways -/
structure DoP (w : World) (base pb : Nat) (A : Option Addr) (S : List PP) (cl : Bool) (e : Ending) (w' : World) : Prop where
  at_ : ∃ (A1 : Option Addr) (c1 : Nat) (ls1 : List PV) (A5 : Option Addr) (c5 : Nat) (ls5 : List PV), e = .returned (.tuple #[.agg #[.slice A5 ls5.length c5, .bool cl], .bool true]) ∧ PipeAt w' base pb (fun _ => False) A1 c1 ls1 cl ∧ Hid (ls1.map PV.s = S) ∧ RefP w' (fun b => b ≠ pb ∧ ablk A1 ≠ some b) A5 c5 ls5 ∧ Hid (ls5.map PV.s = S)
  fr : Fr (fun k => k = pb ∨ ablk A = some k) w w'
theorem DoP.mk' {w w5 w6 wR : World} {base pb g : Nat} {A : Option Addr} {cl : Bool} {S : List PP} {A5 : Option Addr} {c5 : Nat} {ls5 : List PV} {e : Ending} {B : Option Addr} {n d : Nat} {y : Bool}
    (hp : pb < w.heap.size) (h5 : Fr (fun k => k = pb ∨ ablk A = some k) w w5)
    (h6 : PipeTo w5 base pb (fun _ => False) A S cl w6) (hr : RefP w5 (fun b => b ≠ pb ∧ ablk A ≠ some b) A5 c5 ls5) (hS : Hid (ls5.map PV.s = S))
    (hb : Blk w6 g 29 #[.slice B n d, .bool y]) (hg : w.heap.size ≤ g) (k : Fr (fun x => x = g) w6 wR)
    (he : e = .returned (.tuple #[.agg #[.slice A5 ls5.length c5, .bool cl], .bool true])) : DoP w base pb A S cl e wR := by
  obtain ⟨A1, c1, ls1, hp1, hS1, hA1⟩ := h6.at_
  refine ⟨⟨A1, c1, ls1, A5, c5, ls5, he, hp1.putR hb k (by omega), hS1, RefP.putR ?_ hb k, hS⟩, (h5.trans h6.fr (fun _ _ e => e)).trans k (fun x hx e => by omega)⟩
  refine ((hr.mono (Z' := fun b => (b ≠ pb ∧ ablk A ≠ some b) ∧ b < w5.heap.size) (fun b hb hz => ⟨hz, hb⟩)).fr h6.fr (fun b _ hz e => e.elim hz.1.1 hz.1.2)).mono (fun b _ hz => ⟨hz.1.1, fun e => ?_⟩)
  rcases hA1 b e with h | h
  · exact hz.1.2 h
  · have := hz.2; omega
theorem flat_le (S : List PP) (p : PP) (h : p ∈ S) : p.1.length ≤ (flatP S).length := by
  unfold flatP
  induction S with
  | nil => simp at h
  | cons q S ih =>
    rw [List.flatMap_cons, List.length_append]
    rcases List.mem_cons.1 h with rfl | h
    · omega
    · have := ih h; omega
theorem len_of {ls : List PV} {S : List PP} (h : ls.map PV.s = S) : ∀ p ∈ ls, p.x.l.length ≤ (flatP S).length := fun p hp => by
  have := flat_le S p.s (by rw [← h]; exact List.mem_map.2 ⟨p, hp, rfl⟩)
  exact this
theorem full_of {ls ms : List PV} {S : List PP} (h : ls.map PV.s = S) (h2 : ms.map PV.s = S) (hf : ∀ p ∈ ls, 0 < p.x.l.length) : ∀ p ∈ ms, 0 < p.x.l.length := fun p hp => by
  have h3 : p.s ∈ ls.map PV.s := by rw [h, ← h2]; exact List.mem_map.2 ⟨p, hp, rfl⟩
  obtain ⟨q, hq, e⟩ := List.mem_map.1 h3
  have h4 := hf q hq
  have h5 : q.x.l = p.x.l := congrArg Prod.fst e
  rw [← h5]
  exact h4
theorem pipeFlip_any (base pb : Nat) (X : Nat → Prop) (A : Option Addr) (c : Nat) (ls : List PV) (cl : Bool) (w : World) (h : PipeAt w base pb X A c ls cl) (i bit : Int) (mask : Nat) (hlen : ∀ p ∈ ls, p.x.l.length ≤ 140737488355328) (hm : mask < 4294967296) (hX : ∀ b, X b → b < w.heap.size) (hbase : base ≤ w.heap.size) :
    Calls Try.prog 19 #[.pointer (some ⟨pb, 0, none⟩), .int .i64 i, .int .i64 bit, .int .u32 (mask : Int)] w fun e w' => e = .returned (.bool (flipS (ls.map PV.s) i bit mask).2) ∧ PipeTo w base pb X A (flipS (ls.map PV.s) i bit mask).1 cl w' := by
  by_cases hn : ∃ k : Nat, ∃ hk : k < ls.length, i = (k : Int) ∧ ls[k].b = false ∧ ls[k].d = false ∧ 0 ≤ bit ∧ bit < 8 * (ls[k].x.l.length : Int)
  · obtain ⟨k, hk, rfl, hb, hd, h0, h1⟩ := hn
    obtain ⟨bt, rfl⟩ : ∃ bt : Nat, bit = (bt : Int) := ⟨bit.toNat, by omega⟩
    obtain ⟨g, off, rfl, _⟩ := h.par hk
    have hp : (ls.map PV.s)[k]? = some (ls[k].x.l, false, false) := by rw [List.getElem?_map, List.getElem?_eq_getElem hk]; show some (ls[k].x.l, ls[k].b, ls[k].d) = _; rw [hb, hd]
    rw [flipS_yes hp (by omega)]
    exact pipeFlip_yes base pb X g off c ls cl w h k bt mask hlen hm hX hbase hk hb hd (by omega)
  · exact pipeFlip_no base pb X A c ls cl w h i bit mask hlen hn
theorem refFlip_any (A : Option Addr) (c : Nat) (ls : List PV) (cl : Bool) (i bit : Int) (mask : Nat) (Z : Nat → Prop) (w : World) (h : RefP w Z A c ls) (hn : ls.length ≤ 900000) (hlen : ∀ p ∈ ls, p.x.l.length ≤ 1000000) (hm : mask < 4294967296) (hZ : ∀ b, w.heap.size ≤ b → Z b) :
    Calls Try.prog 18 #[.agg #[.slice A ls.length c, .bool cl], .int .i64 i, .int .i64 bit, .int .u32 (mask : Int)] w fun e w' => ∃ (A' : Option Addr) (c' : Nat) (ls' : List PV), e = .returned (.tuple #[.agg #[.slice A' ls'.length c', .bool cl], .bool (flipS (ls.map PV.s) i bit mask).2]) ∧ RefP w' Z A' c' ls' ∧ Hid (ls'.map PV.s = (flipS (ls.map PV.s) i bit mask).1) ∧ Below w.heap.size w w' := by
  by_cases hno : ∃ k : Nat, ∃ hk : k < ls.length, i = (k : Int) ∧ ls[k].b = false ∧ ls[k].d = false ∧ 0 ≤ bit ∧ bit < 8 * (ls[k].x.l.length : Int)
  · obtain ⟨k, hk, rfl, hb, hd, h0, h1⟩ := hno
    obtain ⟨bt, rfl⟩ : ∃ bt : Nat, bit = (bt : Int) := ⟨bit.toNat, by omega⟩
    have hp : (ls.map PV.s)[k]? = some (ls[k].x.l, false, false) := by rw [List.getElem?_map, List.getElem?_eq_getElem hk]; show some (ls[k].x.l, ls[k].b, ls[k].d) = _; rw [hb, hd]
    rw [flipS_yes hp (by omega)]
    exact refFlip_yes A c ls cl k bt mask Z w h hn hlen hm hZ hk hb hd (by omega)
  · exact refFlip_no A c ls cl i bit mask Z w h hlen hno

set_option maxRecDepth 100000 in
set_option maxHeartbeats 4000000 in
theorem do16_send (base pb : Nat) (A : Option Addr) (c : Nat) (ls : List PV) (cl : Bool) (A2 : Option Addr) (c2 : Nat) (ms : List PV) (S : List PP) (n bit : Int) (mask : Nat) (xA : Option Addr) (xc : Nat) (xl : List UInt8) (w : World) (hd : PipeAt w base pb (fun _ => False) A c ls cl) (hS : Hid (ls.map PV.s = S)) (hv : RefP w (fun b => b ≠ pb ∧ ablk A ≠ some b) A2 c2 ms) (hV : Hid (ms.map PV.s = S)) (ho : OpP.ok w (fun b => b < base) ⟨1, n, bit, mask, ⟨xA, xc, xl⟩⟩) (hlen : S.length ≤ 1000) (hfl : (flatP S).length ≤ 20000) (hbase : base ≤ w.heap.size) (hpbb : base ≤ pb) :
    Calls Try.prog 7 #[.pointer (some ⟨pb, 0, none⟩), .agg #[.slice A2 ms.length c2, .bool cl], .agg #[.int .i64 1, .int .i64 n, .int .i64 bit, .int .u32 (mask : Int), .slice xA xl.length xc]] w fun e w' => DoP w base pb A (if cl = false ∧ 0 < xl.length then S ++ [(xl, false, false)] else S) cl e w' := by
  obtain ⟨S', hS'⟩ : ∃ S', S' = (if cl = false ∧ 0 < xl.length then S ++ [(xl, false, false)] else S) := ⟨_, rfl⟩
  rw [← hS']
  have HS' := Lib.hid hS'
  clear hS'

  have hw3 : Below w.heap.size w (((w.alloc (.cells #[.slice A2 ms.length c2, .bool cl] 29)).alloc (.cells #[.int .i64 1, .int .i64 n, .int .i64 bit, .int .u32 (mask : Int), .slice xA xl.length xc] 33)).alloc (.cells #[.slice none 0 0, .bool false] 29)) := (((Below.refl _ _).alloc (Nat.le_refl _) _).alloc (by simp) _).alloc (by simp; omega) _
  have x0 : Blk (((w.alloc (.cells #[.slice A2 ms.length c2, .bool cl] 29)).alloc (.cells #[.int .i64 1, .int .i64 n, .int .i64 bit, .int .u32 (mask : Int), .slice xA xl.length xc] 33)).alloc (.cells #[.slice none 0 0, .bool false] 29)) w.heap.size 29 #[.slice A2 ms.length c2, .bool cl] := (Blk.new w 29 #[.slice A2 ms.length c2, .bool cl]).below ((((Below.refl _ _).alloc (Nat.le_refl _) _)).alloc (by simp) _)
  have x1 : Blk (((w.alloc (.cells #[.slice A2 ms.length c2, .bool cl] 29)).alloc (.cells #[.int .i64 1, .int .i64 n, .int .i64 bit, .int .u32 (mask : Int), .slice xA xl.length xc] 33)).alloc (.cells #[.slice none 0 0, .bool false] 29)) (w.heap.size + 1) 33 #[.int .i64 1, .int .i64 n, .int .i64 bit, .int .u32 (mask : Int), .slice xA xl.length xc] := by
    have := (Blk.new (w.alloc (.cells #[.slice A2 ms.length c2, .bool cl] 29)) 33 #[.int .i64 1, .int .i64 n, .int .i64 bit, .int .u32 (mask : Int), .slice xA xl.length xc]).below ((Below.refl _ _).alloc (Nat.le_refl _) (.cells #[.slice none 0 0, .bool false] 29))
    rwa [show (w.alloc (.cells #[.slice A2 ms.length c2, .bool cl] 29)).heap.size = w.heap.size + 1 by simp] at this
  have x2 : Blk (((w.alloc (.cells #[.slice A2 ms.length c2, .bool cl] 29)).alloc (.cells #[.int .i64 1, .int .i64 n, .int .i64 bit, .int .u32 (mask : Int), .slice xA xl.length xc] 33)).alloc (.cells #[.slice none 0 0, .bool false] 29)) (w.heap.size + 1 + 1) 29 #[.slice none 0 0, .bool false] := by
    have := Blk.new ((w.alloc (.cells #[.slice A2 ms.length c2, .bool cl] 29)).alloc (.cells #[.int .i64 1, .int .i64 n, .int .i64 bit, .int .u32 (mask : Int), .slice xA xl.length xc] 33)) 29 #[.slice none 0 0, .bool false]
    rwa [show ((w.alloc (.cells #[.slice A2 ms.length c2, .bool cl] 29)).alloc (.cells #[.int .i64 1, .int .i64 n, .int .i64 bit, .int .u32 (mask : Int), .slice xA xl.length xc] 33)).heap.size = w.heap.size + 1 + 1 by simp] at this
  have pl := hd.blk.lt
  have hal := fun k hk => (hd.row.lt k hk).2
  have hfull := hd.full
  have hsl : ls.length ≤ 1000 := by have := congrArg List.length hS.out; rw [List.length_map] at this; omega
  have hml : ms.length ≤ 1000 := by have := congrArg List.length hV.out; rw [List.length_map] at this; omega
  have hlenL := len_of hS.out
  have hlenM := len_of hV.out
  have hfm := full_of hS.out hV.out hfull
  have HD := Lib.hid (hd.below hw3)
  have HV := Lib.hid (hv.below hw3)
  have HX := Lib.hid ((ho.x.mono (Z' := fun b => b ≠ pb ∧ ablk A ≠ some b) (fun b _ hz => ⟨by omega, fun e => by have := (hd.row.lt b e).1; omega⟩)).below hw3)
  have hon := ho.n
  have hxlen := ho.len
  have hob := ho.b
  have hom := ho.m
  try dsimp only at hon hob hom hxlen
  have hoz : ∀ W, Below w.heap.size w W → ∀ b, W.heap.size ≤ b → b ≠ pb ∧ ablk A ≠ some b := fun W hW b hb => by
    have := hW.size
    exact ⟨by omega, fun e => by have := hal b e; omega⟩
  have HZ := Lib.hid hoz
  have FR := Lib.hid (Fr.of_below hw3 (fun k => k = pb ∨ ablk A = some k))
  have HAL := Lib.hid hal
  have HFM := Lib.hid hfm
  have HLL := Lib.hid hlenL
  have HLM := Lib.hid hlenM
  clear hd hv ho hoz hal hfull hfm hlenL hlenM
  go_enter Try.func7, Try.ntmps7
  go_upto_region 1 with (fail)
  generalize (((w.alloc (.cells #[.slice A2 ms.length c2, .bool cl] 29)).alloc (.cells #[.int .i64 1, .int .i64 n, .int .i64 bit, .int .u32 (mask : Int), .slice xA xl.length xc] 33)).alloc (.cells #[.slice none 0 0, .bool false] 29)) = w3 at *
  have HW3 := Lib.hid hw3
  have hs3 := hw3.size
  have o0 := x1.cell 0
  have o1 := x1.cell 1
  have o2 := x1.cell 2
  have o3 := x1.cell 3
  have o4 := x1.cell 4
  simp only [List.getElem?_toArray, List.getElem?_cons_zero, List.getElem?_cons_succ] at o0 o1 o2 o3 o4
  clear hw3
  have p0 := x0.cell 0
  have p1 := x0.cell 1
  simp only [List.getElem?_toArray, List.getElem?_cons_zero, List.getElem?_cons_succ] at p0 p1
  have HC := refSend_any A2 c2 ms cl _ w3 HV.out (by omega) xA xc xl HX.out (HZ.out w3 HW3.out)
  rw [hV.out, ← HS'.out] at HC
  replace HC := Lib.hid HC
  have HP := fun (W : World) (hW : PipeAt W base pb (fun _ => False) A c ls cl) (hWs : base ≤ W.heap.size) (hWX : BV.ok W (fun b => b ≠ pb ∧ ablk A ≠ some b) ⟨xA, xc, xl⟩) => pipeSend_any base pb (fun _ => False) A c ls cl W hW xA xc xl _ hWX.1 (fun _ h => h.elim) hWs (by omega) hxlen
  rw [hS.out, ← HS'.out] at HP
  replace HP := Lib.hid HP
  go_wp2_with fail
  refine HC.out.mono ?_
  rintro e w4 ⟨A5, c5, ls5, rfl, hr5, hS5, hb4⟩
  have hba : Below w4.heap.size w4 (w4.alloc (.cells #[.slice A5 ls5.length c5, .bool cl] 29)) := (Below.refl _ _).alloc (Nat.le_refl _) _
  have y5 : Blk (w4.alloc (.cells #[.slice A5 ls5.length c5, .bool cl] 29)) w4.heap.size 29 #[.slice A5 ls5.length c5, .bool cl] := Blk.new w4 29 _
  have l45 : w.heap.size + 1 + 1 < w4.heap.size := Nat.lt_of_lt_of_le x2.lt hb4.size
  have FR5 := Lib.hid ((FR.out.then_below hb4).then_below hba)
  have HD5 := Lib.hid ((HD.out.below hb4).below hba)
  have HR5 := Lib.hid (hr5.below hba)
  have HX5 := Lib.hid ((HX.out.below hb4).below hba)
  have y1 := (x1.below hb4).below hba
  have y2 := (x2.below hb4).below hba
  have hs5 := hba.size
  clear HC HX x0 x1 x2 p0 p1 o0 o1 o2 o3 o4 hr5 FR HD HV
  go_upto_region 4 with (fail)
  generalize w4.alloc (.cells #[.slice A5 ls5.length c5, .bool cl] 29) = w5 at *
  clear hba hb4
  go_wp2_with fail
  refine wp_region_line (.tell 0 (.tell 1 (.tell 2 (.tell 3 (.tell 5 (.one 4 (.tell 6 (.one 7 .done)))))))) (fun W => Fr (fun x => x < w.heap.size ∨ x = w.heap.size + 1 + 1) w5 W) (by kernel_rfl) (by kernel_rfl) ?_
  refine pl_val (by (simp only [List.getElem?_toArray, List.getElem?_cons_zero]; rfl)) (by kernel_rfl) ⟨_, (by (intro w' hC; have q0 := (y5.fr hC (by omega)).cell 0; have q1 := (y5.fr hC (by omega)).cell 1; simp only [List.getElem?_toArray, List.getElem?_cons_zero, List.getElem?_cons_succ] at q0 q1; clear hC; (try go_simp); (try with_reducible rfl); done)), _, (by (simp only [Act.put, List.setIfInBounds_toArray, List.set_cons_zero, List.set_cons_succ]; rfl)), ?_⟩
  refine pl_val (by (simp only [List.getElem?_toArray, List.getElem?_cons_succ, List.getElem?_cons_zero]; rfl)) (by kernel_rfl) ⟨_, (by (intro w' hC; clear hC; (try go_simp); (try with_reducible rfl); done)), _, (by (simp only [Act.put, List.setIfInBounds_toArray, List.set_cons_zero, List.set_cons_succ]; rfl)), ?_⟩
  refine pl_val (by (simp only [List.getElem?_toArray, List.getElem?_cons_succ, List.getElem?_cons_zero]; rfl)) (by kernel_rfl) ⟨_, (by (intro w' hC; clear hC; (try go_simp); (try with_reducible rfl); done)), _, (by (simp only [Act.put, List.setIfInBounds_toArray, List.set_cons_zero, List.set_cons_succ]; rfl)), ?_⟩
  refine pl_val (by (simp only [List.getElem?_toArray, List.getElem?_cons_succ, List.getElem?_cons_zero]; rfl)) (by kernel_rfl) ⟨_, (by (intro w' hC; have q := (y1.fr hC (by omega)).cell 4; simp only [List.getElem?_toArray, List.getElem?_cons_zero, List.getElem?_cons_succ] at q; clear hC; (try go_simp); (try with_reducible rfl); done)), _, (by (simp only [Act.put, List.setIfInBounds_toArray, List.set_cons_zero, List.set_cons_succ]; rfl)), ?_⟩
  refine pl_val (by (simp only [List.getElem?_toArray, List.getElem?_cons_succ, List.getElem?_cons_zero]; rfl)) (by kernel_rfl) ⟨_, (by (intro w' hC; clear hC; (try go_simp); (try with_reducible rfl); done)), _, (by (simp only [Act.put, List.setIfInBounds_toArray, List.set_cons_zero, List.set_cons_succ]; rfl)), ?_⟩
  have hB5 : Below w5.heap.size w5 w5.drew := (Below.refl _ _).drew
  have hC0 : Fr (fun x => x < w.heap.size ∨ x = w.heap.size + 1 + 1) w5 w5.drew := (Fr.refl _ w5).drew
  refine pl_one (by (simp only [List.getElem?_toArray, List.getElem?_cons_succ, List.getElem?_cons_zero]; rfl)) hC0 ?_
  refine al_call (by kernel_rfl) (by go_simp; done) (HP.out w5.drew (HD5.out.below hB5) (by have := hB5.size; omega) (HX5.out.below hB5)) ?_
  rintro e w6 ⟨rfl, h6⟩
  replace h6 : PipeTo w5 base pb (fun _ => False) A S' cl w6 := ⟨by
    obtain ⟨A', c', ls', q1, q2, q3⟩ := h6.at_
    exact ⟨A', c', ls', q1, q2, q3⟩, (Fr.of_below hB5 _).trans h6.fr (fun _ _ e => e)⟩
  refine ⟨_, rfl, _, (by (simp only [Act.put, List.setIfInBounds_toArray, List.set_cons_zero, List.set_cons_succ]; rfl)), ?_⟩
  refine pl_val (by (simp only [List.getElem?_toArray, List.getElem?_cons_succ, List.getElem?_cons_zero]; rfl)) (by kernel_rfl) ⟨_, (by (intro w' hC; clear hC; (try go_simp); (try with_reducible rfl); done)), _, (by (simp only [Act.put, List.setIfInBounds_toArray, List.set_cons_zero, List.set_cons_succ]; rfl)), ?_⟩
  have h6S : Fr (fun x => x < w.heap.size ∨ x = w.heap.size + 1 + 1) w5 w6 := h6.fr.mono (fun x _ e => .inl (by
    rcases e with e | e
    · omega
    · exact HAL.out x e))
  have z2 := y2.fr h6.fr (fun e => by
    rcases e with e | e
    · omega
    · have := HAL.out _ e; omega)
  have fr := fun o => z2.frozen o
  have r0 := z2.cell 0
  have r1 := z2.cell 1
  simp only [List.getElem?_toArray, List.getElem?_cons_zero, List.getElem?_cons_succ] at r0 r1
  refine pl_one (by (simp only [List.getElem?_toArray, List.getElem?_cons_succ, List.getElem?_cons_zero]; rfl)) h6S ?_
  refine al_skip (by kernel_rfl) ⟨_, (by (go_simp; first | done | rfl)), _, (by (simp only [Act.put]; rfl)), ?_⟩
  refine pl_end ((h6S.setAt (w.heap.size + 1 + 1) 0 (.inr rfl) _).setAt (w.heap.size + 1 + 1) 1 (.inr rfl) _) ?_
  simp only [Plan.count, Nat.reduceAdd, List.drop_succ_cons, List.drop_zero]
  clear HP hC0 h6S y1 y5 HX5
  go_wp2_with fail
  have kR : Fr (fun x => x = w.heap.size + 1 + 1) w6 ((w6.setCell ⟨w.heap.size + 1 + 1, 0, none⟩ (.slice A5 ls5.length c5)).setCell ⟨w.heap.size + 1 + 1, 1, none⟩ (.bool cl)) := (((Fr.refl (fun x => x = w.heap.size + 1 + 1) w6).setAt (w.heap.size + 1 + 1) _ rfl _).setAt (w.heap.size + 1 + 1) _ rfl _)
  have yR := ((z2.set_ 0 (.slice A5 ls5.length c5)).set_ 1 (.bool cl))
  simp only [List.setIfInBounds_toArray, List.set_cons_zero, List.set_cons_succ] at yR
  generalize ((w6.setCell ⟨w.heap.size + 1 + 1, 0, none⟩ (.slice A5 ls5.length c5)).setCell ⟨w.heap.size + 1 + 1, 1, none⟩ (.bool cl)) = wR at *
  have s0 := yR.cell 0
  have s1 := yR.cell 1
  simp only [List.getElem?_toArray, List.getElem?_cons_zero, List.getElem?_cons_succ] at s0 s1
  refine bodyPost_ret (v := .tuple #[.agg #[.slice A5 ls5.length c5, .bool cl], .bool true]) (by simp [results, Try.results7, go_sem, s0, s1]) rfl ?_
  exact DoP.mk' pl FR5.out h6 HR5.out hS5 z2 (by omega) kR rfl


set_option maxRecDepth 100000 in
set_option maxHeartbeats 4000000 in
theorem do16_drop (base pb : Nat) (A : Option Addr) (c : Nat) (ls : List PV) (cl : Bool) (A2 : Option Addr) (c2 : Nat) (ms : List PV) (S : List PP) (n bit : Int) (mask : Nat) (xA : Option Addr) (xc : Nat) (xl : List UInt8) (w : World) (hd : PipeAt w base pb (fun _ => False) A c ls cl) (hS : Hid (ls.map PV.s = S)) (hv : RefP w (fun b => b ≠ pb ∧ ablk A ≠ some b) A2 c2 ms) (hV : Hid (ms.map PV.s = S)) (ho : OpP.ok w (fun b => b < base) ⟨3, n, bit, mask, ⟨xA, xc, xl⟩⟩) (hlen : S.length ≤ 1000) (hfl : (flatP S).length ≤ 20000) (hbase : base ≤ w.heap.size) (hpbb : base ≤ pb) :
    Calls Try.prog 7 #[.pointer (some ⟨pb, 0, none⟩), .agg #[.slice A2 ms.length c2, .bool cl], .agg #[.int .i64 3, .int .i64 n, .int .i64 bit, .int .u32 (mask : Int), .slice xA xl.length xc]] w fun e w' => DoP w base pb A ((dropI S n).1) cl e w' := by
  obtain ⟨S', hS'⟩ : ∃ S', S' = ((dropI S n).1) := ⟨_, rfl⟩
  rw [← hS']
  have HS' := Lib.hid hS'
  clear hS'
  obtain ⟨e1, he1⟩ : ∃ e1, e1 = ((dropI S n).2) := ⟨_, rfl⟩
  have HE1 := Lib.hid he1
  clear he1
  have hw3 : Below w.heap.size w (((w.alloc (.cells #[.slice A2 ms.length c2, .bool cl] 29)).alloc (.cells #[.int .i64 3, .int .i64 n, .int .i64 bit, .int .u32 (mask : Int), .slice xA xl.length xc] 33)).alloc (.cells #[.slice none 0 0, .bool false] 29)) := (((Below.refl _ _).alloc (Nat.le_refl _) _).alloc (by simp) _).alloc (by simp; omega) _
  have x0 : Blk (((w.alloc (.cells #[.slice A2 ms.length c2, .bool cl] 29)).alloc (.cells #[.int .i64 3, .int .i64 n, .int .i64 bit, .int .u32 (mask : Int), .slice xA xl.length xc] 33)).alloc (.cells #[.slice none 0 0, .bool false] 29)) w.heap.size 29 #[.slice A2 ms.length c2, .bool cl] := (Blk.new w 29 #[.slice A2 ms.length c2, .bool cl]).below ((((Below.refl _ _).alloc (Nat.le_refl _) _)).alloc (by simp) _)
  have x1 : Blk (((w.alloc (.cells #[.slice A2 ms.length c2, .bool cl] 29)).alloc (.cells #[.int .i64 3, .int .i64 n, .int .i64 bit, .int .u32 (mask : Int), .slice xA xl.length xc] 33)).alloc (.cells #[.slice none 0 0, .bool false] 29)) (w.heap.size + 1) 33 #[.int .i64 3, .int .i64 n, .int .i64 bit, .int .u32 (mask : Int), .slice xA xl.length xc] := by
    have := (Blk.new (w.alloc (.cells #[.slice A2 ms.length c2, .bool cl] 29)) 33 #[.int .i64 3, .int .i64 n, .int .i64 bit, .int .u32 (mask : Int), .slice xA xl.length xc]).below ((Below.refl _ _).alloc (Nat.le_refl _) (.cells #[.slice none 0 0, .bool false] 29))
    rwa [show (w.alloc (.cells #[.slice A2 ms.length c2, .bool cl] 29)).heap.size = w.heap.size + 1 by simp] at this
  have x2 : Blk (((w.alloc (.cells #[.slice A2 ms.length c2, .bool cl] 29)).alloc (.cells #[.int .i64 3, .int .i64 n, .int .i64 bit, .int .u32 (mask : Int), .slice xA xl.length xc] 33)).alloc (.cells #[.slice none 0 0, .bool false] 29)) (w.heap.size + 1 + 1) 29 #[.slice none 0 0, .bool false] := by
    have := Blk.new ((w.alloc (.cells #[.slice A2 ms.length c2, .bool cl] 29)).alloc (.cells #[.int .i64 3, .int .i64 n, .int .i64 bit, .int .u32 (mask : Int), .slice xA xl.length xc] 33)) 29 #[.slice none 0 0, .bool false]
    rwa [show ((w.alloc (.cells #[.slice A2 ms.length c2, .bool cl] 29)).alloc (.cells #[.int .i64 3, .int .i64 n, .int .i64 bit, .int .u32 (mask : Int), .slice xA xl.length xc] 33)).heap.size = w.heap.size + 1 + 1 by simp] at this
  have pl := hd.blk.lt
  have hal := fun k hk => (hd.row.lt k hk).2
  have hfull := hd.full
  have hsl : ls.length ≤ 1000 := by have := congrArg List.length hS.out; rw [List.length_map] at this; omega
  have hml : ms.length ≤ 1000 := by have := congrArg List.length hV.out; rw [List.length_map] at this; omega
  have hlenL := len_of hS.out
  have hlenM := len_of hV.out
  have hfm := full_of hS.out hV.out hfull
  have HD := Lib.hid (hd.below hw3)
  have HV := Lib.hid (hv.below hw3)
  have HX := Lib.hid ((ho.x.mono (Z' := fun b => b ≠ pb ∧ ablk A ≠ some b) (fun b _ hz => ⟨by omega, fun e => by have := (hd.row.lt b e).1; omega⟩)).below hw3)
  have hon := ho.n
  have hxlen := ho.len
  have hob := ho.b
  have hom := ho.m
  try dsimp only at hon hob hom hxlen
  have hoz : ∀ W, Below w.heap.size w W → ∀ b, W.heap.size ≤ b → b ≠ pb ∧ ablk A ≠ some b := fun W hW b hb => by
    have := hW.size
    exact ⟨by omega, fun e => by have := hal b e; omega⟩
  have HZ := Lib.hid hoz
  have FR := Lib.hid (Fr.of_below hw3 (fun k => k = pb ∨ ablk A = some k))
  have HAL := Lib.hid hal
  have HFM := Lib.hid hfm
  have HLL := Lib.hid hlenL
  have HLM := Lib.hid hlenM
  clear hd hv ho hoz hal hfull hfm hlenL hlenM
  go_enter Try.func7, Try.ntmps7
  go_upto_region 1 with (fail)
  generalize (((w.alloc (.cells #[.slice A2 ms.length c2, .bool cl] 29)).alloc (.cells #[.int .i64 3, .int .i64 n, .int .i64 bit, .int .u32 (mask : Int), .slice xA xl.length xc] 33)).alloc (.cells #[.slice none 0 0, .bool false] 29)) = w3 at *
  have HW3 := Lib.hid hw3
  have hs3 := hw3.size
  have o0 := x1.cell 0
  have o1 := x1.cell 1
  have o2 := x1.cell 2
  have o3 := x1.cell 3
  have o4 := x1.cell 4
  simp only [List.getElem?_toArray, List.getElem?_cons_zero, List.getElem?_cons_succ] at o0 o1 o2 o3 o4
  clear hw3
  have p0 := x0.cell 0
  have p1 := x0.cell 1
  simp only [List.getElem?_toArray, List.getElem?_cons_zero, List.getElem?_cons_succ] at p0 p1
  have HC := refDrop16_any A2 c2 ms cl n _ w3 HV.out (by omega) (HZ.out w3 HW3.out)
  rw [hV.out, ← HS'.out, ← HE1.out] at HC
  replace HC := Lib.hid HC
  have HP := fun (W : World) (hW : PipeAt W base pb (fun _ => False) A c ls cl) (hWs : base ≤ W.heap.size) (hWX : BV.ok W (fun b => b ≠ pb ∧ ablk A ≠ some b) ⟨xA, xc, xl⟩) => pipeDrop_any base pb (fun _ => False) A c ls cl W hW n (by omega) hWs
  rw [hS.out, ← HS'.out, ← HE1.out] at HP
  replace HP := Lib.hid HP
  go_wp2_with fail
  refine HC.out.mono ?_
  rintro e w4 ⟨A5, c5, ls5, rfl, hr5, hS5, hb4⟩
  have hba : Below w4.heap.size w4 (w4.alloc (.cells #[.slice A5 ls5.length c5, .bool cl] 29)) := (Below.refl _ _).alloc (Nat.le_refl _) _
  have y5 : Blk (w4.alloc (.cells #[.slice A5 ls5.length c5, .bool cl] 29)) w4.heap.size 29 #[.slice A5 ls5.length c5, .bool cl] := Blk.new w4 29 _
  have l45 : w.heap.size + 1 + 1 < w4.heap.size := Nat.lt_of_lt_of_le x2.lt hb4.size
  have FR5 := Lib.hid ((FR.out.then_below hb4).then_below hba)
  have HD5 := Lib.hid ((HD.out.below hb4).below hba)
  have HR5 := Lib.hid (hr5.below hba)
  have HX5 := Lib.hid ((HX.out.below hb4).below hba)
  have y1 := (x1.below hb4).below hba
  have y2 := (x2.below hb4).below hba
  have hs5 := hba.size
  clear HC HX x0 x1 x2 p0 p1 o0 o1 o2 o3 o4 hr5 FR HD HV
  go_upto_region 10 with (fail)
  generalize w4.alloc (.cells #[.slice A5 ls5.length c5, .bool cl] 29) = w5 at *
  clear hba hb4
  go_wp2_with fail
  refine wp_region_line (.tell 0 (.tell 1 (.tell 2 (.tell 3 (.tell 5 (.one 4 (.tell 6 (.one 7 .done)))))))) (fun W => Fr (fun x => x < w.heap.size ∨ x = w.heap.size + 1 + 1) w5 W) (by kernel_rfl) (by kernel_rfl) ?_
  refine pl_val (by (simp only [List.getElem?_toArray, List.getElem?_cons_zero]; rfl)) (by kernel_rfl) ⟨_, (by (intro w' hC; have q0 := (y5.fr hC (by omega)).cell 0; have q1 := (y5.fr hC (by omega)).cell 1; simp only [List.getElem?_toArray, List.getElem?_cons_zero, List.getElem?_cons_succ] at q0 q1; clear hC; (try go_simp); (try with_reducible rfl); done)), _, (by (simp only [Act.put, List.setIfInBounds_toArray, List.set_cons_zero, List.set_cons_succ]; rfl)), ?_⟩
  refine pl_val (by (simp only [List.getElem?_toArray, List.getElem?_cons_succ, List.getElem?_cons_zero]; rfl)) (by kernel_rfl) ⟨_, (by (intro w' hC; clear hC; (try go_simp); (try with_reducible rfl); done)), _, (by (simp only [Act.put, List.setIfInBounds_toArray, List.set_cons_zero, List.set_cons_succ]; rfl)), ?_⟩
  refine pl_val (by (simp only [List.getElem?_toArray, List.getElem?_cons_succ, List.getElem?_cons_zero]; rfl)) (by kernel_rfl) ⟨_, (by (intro w' hC; clear hC; (try go_simp); (try with_reducible rfl); done)), _, (by (simp only [Act.put, List.setIfInBounds_toArray, List.set_cons_zero, List.set_cons_succ]; rfl)), ?_⟩
  refine pl_val (by (simp only [List.getElem?_toArray, List.getElem?_cons_succ, List.getElem?_cons_zero]; rfl)) (by kernel_rfl) ⟨_, (by (intro w' hC; have q := (y1.fr hC (by omega)).cell 1; simp only [List.getElem?_toArray, List.getElem?_cons_zero, List.getElem?_cons_succ] at q; clear hC; (try go_simp); (try with_reducible rfl); done)), _, (by (simp only [Act.put, List.setIfInBounds_toArray, List.set_cons_zero, List.set_cons_succ]; rfl)), ?_⟩
  refine pl_val (by (simp only [List.getElem?_toArray, List.getElem?_cons_succ, List.getElem?_cons_zero]; rfl)) (by kernel_rfl) ⟨_, (by (intro w' hC; clear hC; (try go_simp); (try with_reducible rfl); done)), _, (by (simp only [Act.put, List.setIfInBounds_toArray, List.set_cons_zero, List.set_cons_succ]; rfl)), ?_⟩
  have hB5 : Below w5.heap.size w5 w5.drew := (Below.refl _ _).drew
  have hC0 : Fr (fun x => x < w.heap.size ∨ x = w.heap.size + 1 + 1) w5 w5.drew := (Fr.refl _ w5).drew
  refine pl_one (by (simp only [List.getElem?_toArray, List.getElem?_cons_succ, List.getElem?_cons_zero]; rfl)) hC0 ?_
  refine al_call (by kernel_rfl) (by go_simp; done) (HP.out w5.drew (HD5.out.below hB5) (by have := hB5.size; omega) (HX5.out.below hB5)) ?_
  rintro e w6 ⟨rfl, h6⟩
  replace h6 : PipeTo w5 base pb (fun _ => False) A S' cl w6 := ⟨by
    obtain ⟨A', c', ls', q1, q2, q3⟩ := h6.at_
    exact ⟨A', c', ls', q1, q2, q3⟩, (Fr.of_below hB5 _).trans h6.fr (fun _ _ e => e)⟩
  refine ⟨_, rfl, _, (by (simp only [Act.put, List.setIfInBounds_toArray, List.set_cons_zero, List.set_cons_succ]; rfl)), ?_⟩
  refine pl_val (by (simp only [List.getElem?_toArray, List.getElem?_cons_succ, List.getElem?_cons_zero]; rfl)) (by kernel_rfl) ⟨_, (by (intro w' hC; clear hC; (try go_simp); (try with_reducible rfl); done)), _, (by (simp only [Act.put, List.setIfInBounds_toArray, List.set_cons_zero, List.set_cons_succ]; rfl)), ?_⟩
  have h6S : Fr (fun x => x < w.heap.size ∨ x = w.heap.size + 1 + 1) w5 w6 := h6.fr.mono (fun x _ e => .inl (by
    rcases e with e | e
    · omega
    · exact HAL.out x e))
  have z2 := y2.fr h6.fr (fun e => by
    rcases e with e | e
    · omega
    · have := HAL.out _ e; omega)
  have fr := fun o => z2.frozen o
  have r0 := z2.cell 0
  have r1 := z2.cell 1
  simp only [List.getElem?_toArray, List.getElem?_cons_zero, List.getElem?_cons_succ] at r0 r1
  refine pl_one (by (simp only [List.getElem?_toArray, List.getElem?_cons_succ, List.getElem?_cons_zero]; rfl)) h6S ?_
  refine al_skip (by kernel_rfl) ⟨_, (by (go_simp; first | done | rfl)), _, (by (simp only [Act.put]; rfl)), ?_⟩
  refine pl_end ((h6S.setAt (w.heap.size + 1 + 1) 0 (.inr rfl) _).setAt (w.heap.size + 1 + 1) 1 (.inr rfl) _) ?_
  simp only [Plan.count, Nat.reduceAdd, List.drop_succ_cons, List.drop_zero]
  clear HP hC0 h6S y1 y5 HX5
  go_wp2_with fail
  have kR : Fr (fun x => x = w.heap.size + 1 + 1) w6 ((w6.setCell ⟨w.heap.size + 1 + 1, 0, none⟩ (.slice A5 ls5.length c5)).setCell ⟨w.heap.size + 1 + 1, 1, none⟩ (.bool cl)) := (((Fr.refl (fun x => x = w.heap.size + 1 + 1) w6).setAt (w.heap.size + 1 + 1) _ rfl _).setAt (w.heap.size + 1 + 1) _ rfl _)
  have yR := ((z2.set_ 0 (.slice A5 ls5.length c5)).set_ 1 (.bool cl))
  simp only [List.setIfInBounds_toArray, List.set_cons_zero, List.set_cons_succ] at yR
  generalize ((w6.setCell ⟨w.heap.size + 1 + 1, 0, none⟩ (.slice A5 ls5.length c5)).setCell ⟨w.heap.size + 1 + 1, 1, none⟩ (.bool cl)) = wR at *
  have s0 := yR.cell 0
  have s1 := yR.cell 1
  simp only [List.getElem?_toArray, List.getElem?_cons_zero, List.getElem?_cons_succ] at s0 s1
  refine bodyPost_ret (v := .tuple #[.agg #[.slice A5 ls5.length c5, .bool cl], .bool true]) (by simp [results, Try.results7, go_sem, s0, s1]) rfl ?_
  exact DoP.mk' pl FR5.out h6 HR5.out hS5 z2 (by omega) kR rfl


set_option maxRecDepth 100000 in
set_option maxHeartbeats 4000000 in
theorem do16_flip (base pb : Nat) (A : Option Addr) (c : Nat) (ls : List PV) (cl : Bool) (A2 : Option Addr) (c2 : Nat) (ms : List PV) (S : List PP) (n bit : Int) (mask : Nat) (xA : Option Addr) (xc : Nat) (xl : List UInt8) (w : World) (hd : PipeAt w base pb (fun _ => False) A c ls cl) (hS : Hid (ls.map PV.s = S)) (hv : RefP w (fun b => b ≠ pb ∧ ablk A ≠ some b) A2 c2 ms) (hV : Hid (ms.map PV.s = S)) (ho : OpP.ok w (fun b => b < base) ⟨4, n, bit, mask, ⟨xA, xc, xl⟩⟩) (hlen : S.length ≤ 1000) (hfl : (flatP S).length ≤ 20000) (hbase : base ≤ w.heap.size) (hpbb : base ≤ pb) :
    Calls Try.prog 7 #[.pointer (some ⟨pb, 0, none⟩), .agg #[.slice A2 ms.length c2, .bool cl], .agg #[.int .i64 4, .int .i64 n, .int .i64 bit, .int .u32 (mask : Int), .slice xA xl.length xc]] w fun e w' => DoP w base pb A ((flipS S n bit mask).1) cl e w' := by
  obtain ⟨S', hS'⟩ : ∃ S', S' = ((flipS S n bit mask).1) := ⟨_, rfl⟩
  rw [← hS']
  have HS' := Lib.hid hS'
  clear hS'
  obtain ⟨e1, he1⟩ : ∃ e1, e1 = ((flipS S n bit mask).2) := ⟨_, rfl⟩
  have HE1 := Lib.hid he1
  clear he1
  have hw3 : Below w.heap.size w (((w.alloc (.cells #[.slice A2 ms.length c2, .bool cl] 29)).alloc (.cells #[.int .i64 4, .int .i64 n, .int .i64 bit, .int .u32 (mask : Int), .slice xA xl.length xc] 33)).alloc (.cells #[.slice none 0 0, .bool false] 29)) := (((Below.refl _ _).alloc (Nat.le_refl _) _).alloc (by simp) _).alloc (by simp; omega) _
  have x0 : Blk (((w.alloc (.cells #[.slice A2 ms.length c2, .bool cl] 29)).alloc (.cells #[.int .i64 4, .int .i64 n, .int .i64 bit, .int .u32 (mask : Int), .slice xA xl.length xc] 33)).alloc (.cells #[.slice none 0 0, .bool false] 29)) w.heap.size 29 #[.slice A2 ms.length c2, .bool cl] := (Blk.new w 29 #[.slice A2 ms.length c2, .bool cl]).below ((((Below.refl _ _).alloc (Nat.le_refl _) _)).alloc (by simp) _)
  have x1 : Blk (((w.alloc (.cells #[.slice A2 ms.length c2, .bool cl] 29)).alloc (.cells #[.int .i64 4, .int .i64 n, .int .i64 bit, .int .u32 (mask : Int), .slice xA xl.length xc] 33)).alloc (.cells #[.slice none 0 0, .bool false] 29)) (w.heap.size + 1) 33 #[.int .i64 4, .int .i64 n, .int .i64 bit, .int .u32 (mask : Int), .slice xA xl.length xc] := by
    have := (Blk.new (w.alloc (.cells #[.slice A2 ms.length c2, .bool cl] 29)) 33 #[.int .i64 4, .int .i64 n, .int .i64 bit, .int .u32 (mask : Int), .slice xA xl.length xc]).below ((Below.refl _ _).alloc (Nat.le_refl _) (.cells #[.slice none 0 0, .bool false] 29))
    rwa [show (w.alloc (.cells #[.slice A2 ms.length c2, .bool cl] 29)).heap.size = w.heap.size + 1 by simp] at this
  have x2 : Blk (((w.alloc (.cells #[.slice A2 ms.length c2, .bool cl] 29)).alloc (.cells #[.int .i64 4, .int .i64 n, .int .i64 bit, .int .u32 (mask : Int), .slice xA xl.length xc] 33)).alloc (.cells #[.slice none 0 0, .bool false] 29)) (w.heap.size + 1 + 1) 29 #[.slice none 0 0, .bool false] := by
    have := Blk.new ((w.alloc (.cells #[.slice A2 ms.length c2, .bool cl] 29)).alloc (.cells #[.int .i64 4, .int .i64 n, .int .i64 bit, .int .u32 (mask : Int), .slice xA xl.length xc] 33)) 29 #[.slice none 0 0, .bool false]
    rwa [show ((w.alloc (.cells #[.slice A2 ms.length c2, .bool cl] 29)).alloc (.cells #[.int .i64 4, .int .i64 n, .int .i64 bit, .int .u32 (mask : Int), .slice xA xl.length xc] 33)).heap.size = w.heap.size + 1 + 1 by simp] at this
  have pl := hd.blk.lt
  have hal := fun k hk => (hd.row.lt k hk).2
  have hfull := hd.full
  have hsl : ls.length ≤ 1000 := by have := congrArg List.length hS.out; rw [List.length_map] at this; omega
  have hml : ms.length ≤ 1000 := by have := congrArg List.length hV.out; rw [List.length_map] at this; omega
  have hlenL := len_of hS.out
  have hlenM := len_of hV.out
  have hfm := full_of hS.out hV.out hfull
  have HD := Lib.hid (hd.below hw3)
  have HV := Lib.hid (hv.below hw3)
  have HX := Lib.hid ((ho.x.mono (Z' := fun b => b ≠ pb ∧ ablk A ≠ some b) (fun b _ hz => ⟨by omega, fun e => by have := (hd.row.lt b e).1; omega⟩)).below hw3)
  have hon := ho.n
  have hxlen := ho.len
  have hob := ho.b
  have hom := ho.m
  try dsimp only at hon hob hom hxlen
  have hoz : ∀ W, Below w.heap.size w W → ∀ b, W.heap.size ≤ b → b ≠ pb ∧ ablk A ≠ some b := fun W hW b hb => by
    have := hW.size
    exact ⟨by omega, fun e => by have := hal b e; omega⟩
  have HZ := Lib.hid hoz
  have FR := Lib.hid (Fr.of_below hw3 (fun k => k = pb ∨ ablk A = some k))
  have HAL := Lib.hid hal
  have HFM := Lib.hid hfm
  have HLL := Lib.hid hlenL
  have HLM := Lib.hid hlenM
  clear hd hv ho hoz hal hfull hfm hlenL hlenM
  go_enter Try.func7, Try.ntmps7
  go_upto_region 1 with (fail)
  generalize (((w.alloc (.cells #[.slice A2 ms.length c2, .bool cl] 29)).alloc (.cells #[.int .i64 4, .int .i64 n, .int .i64 bit, .int .u32 (mask : Int), .slice xA xl.length xc] 33)).alloc (.cells #[.slice none 0 0, .bool false] 29)) = w3 at *
  have HW3 := Lib.hid hw3
  have hs3 := hw3.size
  have o0 := x1.cell 0
  have o1 := x1.cell 1
  have o2 := x1.cell 2
  have o3 := x1.cell 3
  have o4 := x1.cell 4
  simp only [List.getElem?_toArray, List.getElem?_cons_zero, List.getElem?_cons_succ] at o0 o1 o2 o3 o4
  clear hw3
  have p0 := x0.cell 0
  have p1 := x0.cell 1
  simp only [List.getElem?_toArray, List.getElem?_cons_zero, List.getElem?_cons_succ] at p0 p1
  have HC := refFlip_any A2 c2 ms cl n bit mask _ w3 HV.out (by omega) (fun p hp => by have := HLM.out p hp; omega) (by omega) (HZ.out w3 HW3.out)
  rw [hV.out, ← HS'.out, ← HE1.out] at HC
  replace HC := Lib.hid HC
  have HP := fun (W : World) (hW : PipeAt W base pb (fun _ => False) A c ls cl) (hWs : base ≤ W.heap.size) (hWX : BV.ok W (fun b => b ≠ pb ∧ ablk A ≠ some b) ⟨xA, xc, xl⟩) => pipeFlip_any base pb (fun _ => False) A c ls cl W hW n bit mask (fun p hp => by have := HLL.out p hp; omega) (by omega) (fun _ h => h.elim) hWs
  rw [hS.out, ← HS'.out, ← HE1.out] at HP
  replace HP := Lib.hid HP
  go_wp2_with fail
  refine HC.out.mono ?_
  rintro e w4 ⟨A5, c5, ls5, rfl, hr5, hS5, hb4⟩
  have hba : Below w4.heap.size w4 (w4.alloc (.cells #[.slice A5 ls5.length c5, .bool cl] 29)) := (Below.refl _ _).alloc (Nat.le_refl _) _
  have y5 : Blk (w4.alloc (.cells #[.slice A5 ls5.length c5, .bool cl] 29)) w4.heap.size 29 #[.slice A5 ls5.length c5, .bool cl] := Blk.new w4 29 _
  have l45 : w.heap.size + 1 + 1 < w4.heap.size := Nat.lt_of_lt_of_le x2.lt hb4.size
  have FR5 := Lib.hid ((FR.out.then_below hb4).then_below hba)
  have HD5 := Lib.hid ((HD.out.below hb4).below hba)
  have HR5 := Lib.hid (hr5.below hba)
  have HX5 := Lib.hid ((HX.out.below hb4).below hba)
  have y1 := (x1.below hb4).below hba
  have y2 := (x2.below hb4).below hba
  have hs5 := hba.size
  clear HC HX x0 x1 x2 p0 p1 o0 o1 o2 o3 o4 hr5 FR HD HV
  go_upto_region 13 with (fail)
  generalize w4.alloc (.cells #[.slice A5 ls5.length c5, .bool cl] 29) = w5 at *
  clear hba hb4
  go_wp2_with fail
  refine wp_region_line (.tell 0 (.tell 1 (.tell 2 (.tell 3 (.tell 4 (.tell 5 (.tell 6 (.tell 7 (.tell 9 (.one 8 (.tell 10 (.one 11 .done)))))))))))) (fun W => Fr (fun x => x < w.heap.size ∨ x = w.heap.size + 1 + 1) w5 W) (by kernel_rfl) (by kernel_rfl) ?_
  refine pl_val (by (simp only [List.getElem?_toArray, List.getElem?_cons_zero]; rfl)) (by kernel_rfl) ⟨_, (by (intro w' hC; have q0 := (y5.fr hC (by omega)).cell 0; have q1 := (y5.fr hC (by omega)).cell 1; simp only [List.getElem?_toArray, List.getElem?_cons_zero, List.getElem?_cons_succ] at q0 q1; clear hC; (try go_simp); (try with_reducible rfl); done)), _, (by (simp only [Act.put, List.setIfInBounds_toArray, List.set_cons_zero, List.set_cons_succ]; rfl)), ?_⟩
  refine pl_val (by (simp only [List.getElem?_toArray, List.getElem?_cons_succ, List.getElem?_cons_zero]; rfl)) (by kernel_rfl) ⟨_, (by (intro w' hC; clear hC; (try go_simp); (try with_reducible rfl); done)), _, (by (simp only [Act.put, List.setIfInBounds_toArray, List.set_cons_zero, List.set_cons_succ]; rfl)), ?_⟩
  refine pl_val (by (simp only [List.getElem?_toArray, List.getElem?_cons_succ, List.getElem?_cons_zero]; rfl)) (by kernel_rfl) ⟨_, (by (intro w' hC; clear hC; (try go_simp); (try with_reducible rfl); done)), _, (by (simp only [Act.put, List.setIfInBounds_toArray, List.set_cons_zero, List.set_cons_succ]; rfl)), ?_⟩
  refine pl_val (by (simp only [List.getElem?_toArray, List.getElem?_cons_succ, List.getElem?_cons_zero]; rfl)) (by kernel_rfl) ⟨_, (by (intro w' hC; have q := (y1.fr hC (by omega)).cell 1; simp only [List.getElem?_toArray, List.getElem?_cons_zero, List.getElem?_cons_succ] at q; clear hC; (try go_simp); (try with_reducible rfl); done)), _, (by (simp only [Act.put, List.setIfInBounds_toArray, List.set_cons_zero, List.set_cons_succ]; rfl)), ?_⟩
  refine pl_val (by (simp only [List.getElem?_toArray, List.getElem?_cons_succ, List.getElem?_cons_zero]; rfl)) (by kernel_rfl) ⟨_, (by (intro w' hC; clear hC; (try go_simp); (try with_reducible rfl); done)), _, (by (simp only [Act.put, List.setIfInBounds_toArray, List.set_cons_zero, List.set_cons_succ]; rfl)), ?_⟩
  refine pl_val (by (simp only [List.getElem?_toArray, List.getElem?_cons_succ, List.getElem?_cons_zero]; rfl)) (by kernel_rfl) ⟨_, (by (intro w' hC; have q := (y1.fr hC (by omega)).cell 2; simp only [List.getElem?_toArray, List.getElem?_cons_zero, List.getElem?_cons_succ] at q; clear hC; (try go_simp); (try with_reducible rfl); done)), _, (by (simp only [Act.put, List.setIfInBounds_toArray, List.set_cons_zero, List.set_cons_succ]; rfl)), ?_⟩
  refine pl_val (by (simp only [List.getElem?_toArray, List.getElem?_cons_succ, List.getElem?_cons_zero]; rfl)) (by kernel_rfl) ⟨_, (by (intro w' hC; clear hC; (try go_simp); (try with_reducible rfl); done)), _, (by (simp only [Act.put, List.setIfInBounds_toArray, List.set_cons_zero, List.set_cons_succ]; rfl)), ?_⟩
  refine pl_val (by (simp only [List.getElem?_toArray, List.getElem?_cons_succ, List.getElem?_cons_zero]; rfl)) (by kernel_rfl) ⟨_, (by (intro w' hC; have q := (y1.fr hC (by omega)).cell 3; simp only [List.getElem?_toArray, List.getElem?_cons_zero, List.getElem?_cons_succ] at q; clear hC; (try go_simp); (try with_reducible rfl); done)), _, (by (simp only [Act.put, List.setIfInBounds_toArray, List.set_cons_zero, List.set_cons_succ]; rfl)), ?_⟩
  refine pl_val (by (simp only [List.getElem?_toArray, List.getElem?_cons_succ, List.getElem?_cons_zero]; rfl)) (by kernel_rfl) ⟨_, (by (intro w' hC; clear hC; (try go_simp); (try with_reducible rfl); done)), _, (by (simp only [Act.put, List.setIfInBounds_toArray, List.set_cons_zero, List.set_cons_succ]; rfl)), ?_⟩
  have hB5 : Below w5.heap.size w5 w5.drew := (Below.refl _ _).drew
  have hC0 : Fr (fun x => x < w.heap.size ∨ x = w.heap.size + 1 + 1) w5 w5.drew := (Fr.refl _ w5).drew
  refine pl_one (by (simp only [List.getElem?_toArray, List.getElem?_cons_succ, List.getElem?_cons_zero]; rfl)) hC0 ?_
  refine al_call (by kernel_rfl) (by go_simp; done) (HP.out w5.drew (HD5.out.below hB5) (by have := hB5.size; omega) (HX5.out.below hB5)) ?_
  rintro e w6 ⟨rfl, h6⟩
  replace h6 : PipeTo w5 base pb (fun _ => False) A S' cl w6 := ⟨by
    obtain ⟨A', c', ls', q1, q2, q3⟩ := h6.at_
    exact ⟨A', c', ls', q1, q2, q3⟩, (Fr.of_below hB5 _).trans h6.fr (fun _ _ e => e)⟩
  refine ⟨_, rfl, _, (by (simp only [Act.put, List.setIfInBounds_toArray, List.set_cons_zero, List.set_cons_succ]; rfl)), ?_⟩
  refine pl_val (by (simp only [List.getElem?_toArray, List.getElem?_cons_succ, List.getElem?_cons_zero]; rfl)) (by kernel_rfl) ⟨_, (by (intro w' hC; clear hC; (try go_simp); (try with_reducible rfl); done)), _, (by (simp only [Act.put, List.setIfInBounds_toArray, List.set_cons_zero, List.set_cons_succ]; rfl)), ?_⟩
  have h6S : Fr (fun x => x < w.heap.size ∨ x = w.heap.size + 1 + 1) w5 w6 := h6.fr.mono (fun x _ e => .inl (by
    rcases e with e | e
    · omega
    · exact HAL.out x e))
  have z2 := y2.fr h6.fr (fun e => by
    rcases e with e | e
    · omega
    · have := HAL.out _ e; omega)
  have fr := fun o => z2.frozen o
  have r0 := z2.cell 0
  have r1 := z2.cell 1
  simp only [List.getElem?_toArray, List.getElem?_cons_zero, List.getElem?_cons_succ] at r0 r1
  refine pl_one (by (simp only [List.getElem?_toArray, List.getElem?_cons_succ, List.getElem?_cons_zero]; rfl)) h6S ?_
  refine al_skip (by kernel_rfl) ⟨_, (by (go_simp; first | done | rfl)), _, (by (simp only [Act.put]; rfl)), ?_⟩
  refine pl_end ((h6S.setAt (w.heap.size + 1 + 1) 0 (.inr rfl) _).setAt (w.heap.size + 1 + 1) 1 (.inr rfl) _) ?_
  simp only [Plan.count, Nat.reduceAdd, List.drop_succ_cons, List.drop_zero]
  clear HP hC0 h6S y1 y5 HX5
  go_wp2_with fail
  have kR : Fr (fun x => x = w.heap.size + 1 + 1) w6 ((w6.setCell ⟨w.heap.size + 1 + 1, 0, none⟩ (.slice A5 ls5.length c5)).setCell ⟨w.heap.size + 1 + 1, 1, none⟩ (.bool cl)) := (((Fr.refl (fun x => x = w.heap.size + 1 + 1) w6).setAt (w.heap.size + 1 + 1) _ rfl _).setAt (w.heap.size + 1 + 1) _ rfl _)
  have yR := ((z2.set_ 0 (.slice A5 ls5.length c5)).set_ 1 (.bool cl))
  simp only [List.setIfInBounds_toArray, List.set_cons_zero, List.set_cons_succ] at yR
  generalize ((w6.setCell ⟨w.heap.size + 1 + 1, 0, none⟩ (.slice A5 ls5.length c5)).setCell ⟨w.heap.size + 1 + 1, 1, none⟩ (.bool cl)) = wR at *
  have s0 := yR.cell 0
  have s1 := yR.cell 1
  simp only [List.getElem?_toArray, List.getElem?_cons_zero, List.getElem?_cons_succ] at s0 s1
  refine bodyPost_ret (v := .tuple #[.agg #[.slice A5 ls5.length c5, .bool cl], .bool true]) (by simp [results, Try.results7, go_sem, s0, s1]) rfl ?_
  exact DoP.mk' pl FR5.out h6 HR5.out hS5 z2 (by omega) kR rfl


set_option maxRecDepth 100000 in
set_option maxHeartbeats 4000000 in
theorem do16_take (base pb : Nat) (A : Option Addr) (c : Nat) (ls : List PV) (cl : Bool) (A2 : Option Addr) (c2 : Nat) (ms : List PV) (S : List PP) (n bit : Int) (mask : Nat) (xA : Option Addr) (xc : Nat) (xl : List UInt8) (w : World) (hd : PipeAt w base pb (fun _ => False) A c ls cl) (hS : Hid (ls.map PV.s = S)) (hv : RefP w (fun b => b ≠ pb ∧ ablk A ≠ some b) A2 c2 ms) (hV : Hid (ms.map PV.s = S)) (ho : OpP.ok w (fun b => b < base) ⟨2, n, bit, mask, ⟨xA, xc, xl⟩⟩) (hlen : S.length ≤ 1000) (hfl : (flatP S).length ≤ 20000) (hbase : base ≤ w.heap.size) (hpbb : base ≤ pb) :
    Calls Try.prog 7 #[.pointer (some ⟨pb, 0, none⟩), .agg #[.slice A2 ms.length c2, .bool cl], .agg #[.int .i64 2, .int .i64 n, .int .i64 bit, .int .u32 (mask : Int), .slice xA xl.length xc]] w fun e w' => DoP w base pb A (dropS S n.toNat) cl e w' := by
  obtain ⟨S', hS'⟩ : ∃ S', S' = (dropS S n.toNat) := ⟨_, rfl⟩
  rw [← hS']
  have HS' := Lib.hid hS'
  clear hS'

  have hw3 : Below w.heap.size w (((w.alloc (.cells #[.slice A2 ms.length c2, .bool cl] 29)).alloc (.cells #[.int .i64 2, .int .i64 n, .int .i64 bit, .int .u32 (mask : Int), .slice xA xl.length xc] 33)).alloc (.cells #[.slice none 0 0, .bool false] 29)) := (((Below.refl _ _).alloc (Nat.le_refl _) _).alloc (by simp) _).alloc (by simp; omega) _
  have x0 : Blk (((w.alloc (.cells #[.slice A2 ms.length c2, .bool cl] 29)).alloc (.cells #[.int .i64 2, .int .i64 n, .int .i64 bit, .int .u32 (mask : Int), .slice xA xl.length xc] 33)).alloc (.cells #[.slice none 0 0, .bool false] 29)) w.heap.size 29 #[.slice A2 ms.length c2, .bool cl] := (Blk.new w 29 #[.slice A2 ms.length c2, .bool cl]).below ((((Below.refl _ _).alloc (Nat.le_refl _) _)).alloc (by simp) _)
  have x1 : Blk (((w.alloc (.cells #[.slice A2 ms.length c2, .bool cl] 29)).alloc (.cells #[.int .i64 2, .int .i64 n, .int .i64 bit, .int .u32 (mask : Int), .slice xA xl.length xc] 33)).alloc (.cells #[.slice none 0 0, .bool false] 29)) (w.heap.size + 1) 33 #[.int .i64 2, .int .i64 n, .int .i64 bit, .int .u32 (mask : Int), .slice xA xl.length xc] := by
    have := (Blk.new (w.alloc (.cells #[.slice A2 ms.length c2, .bool cl] 29)) 33 #[.int .i64 2, .int .i64 n, .int .i64 bit, .int .u32 (mask : Int), .slice xA xl.length xc]).below ((Below.refl _ _).alloc (Nat.le_refl _) (.cells #[.slice none 0 0, .bool false] 29))
    rwa [show (w.alloc (.cells #[.slice A2 ms.length c2, .bool cl] 29)).heap.size = w.heap.size + 1 by simp] at this
  have x2 : Blk (((w.alloc (.cells #[.slice A2 ms.length c2, .bool cl] 29)).alloc (.cells #[.int .i64 2, .int .i64 n, .int .i64 bit, .int .u32 (mask : Int), .slice xA xl.length xc] 33)).alloc (.cells #[.slice none 0 0, .bool false] 29)) (w.heap.size + 1 + 1) 29 #[.slice none 0 0, .bool false] := by
    have := Blk.new ((w.alloc (.cells #[.slice A2 ms.length c2, .bool cl] 29)).alloc (.cells #[.int .i64 2, .int .i64 n, .int .i64 bit, .int .u32 (mask : Int), .slice xA xl.length xc] 33)) 29 #[.slice none 0 0, .bool false]
    rwa [show ((w.alloc (.cells #[.slice A2 ms.length c2, .bool cl] 29)).alloc (.cells #[.int .i64 2, .int .i64 n, .int .i64 bit, .int .u32 (mask : Int), .slice xA xl.length xc] 33)).heap.size = w.heap.size + 1 + 1 by simp] at this
  have pl := hd.blk.lt
  have hal := fun k hk => (hd.row.lt k hk).2
  have hfull := hd.full
  have hsl : ls.length ≤ 1000 := by have := congrArg List.length hS.out; rw [List.length_map] at this; omega
  have hml : ms.length ≤ 1000 := by have := congrArg List.length hV.out; rw [List.length_map] at this; omega
  have hlenL := len_of hS.out
  have hlenM := len_of hV.out
  have hfm := full_of hS.out hV.out hfull
  have HD := Lib.hid (hd.below hw3)
  have HV := Lib.hid (hv.below hw3)
  have HX := Lib.hid ((ho.x.mono (Z' := fun b => b ≠ pb ∧ ablk A ≠ some b) (fun b _ hz => ⟨by omega, fun e => by have := (hd.row.lt b e).1; omega⟩)).below hw3)
  have hon := ho.n
  have hxlen := ho.len
  have hob := ho.b
  have hom := ho.m
  try dsimp only at hon hob hom hxlen
  have hoz : ∀ W, Below w.heap.size w W → ∀ b, W.heap.size ≤ b → b ≠ pb ∧ ablk A ≠ some b := fun W hW b hb => by
    have := hW.size
    exact ⟨by omega, fun e => by have := hal b e; omega⟩
  have HZ := Lib.hid hoz
  have FR := Lib.hid (Fr.of_below hw3 (fun k => k = pb ∨ ablk A = some k))
  have HAL := Lib.hid hal
  have HFM := Lib.hid hfm
  have HLL := Lib.hid hlenL
  have HLM := Lib.hid hlenM
  clear hd hv ho hoz hal hfull hfm hlenL hlenM
  go_enter Try.func7, Try.ntmps7
  go_upto_region 1 with (fail)
  generalize (((w.alloc (.cells #[.slice A2 ms.length c2, .bool cl] 29)).alloc (.cells #[.int .i64 2, .int .i64 n, .int .i64 bit, .int .u32 (mask : Int), .slice xA xl.length xc] 33)).alloc (.cells #[.slice none 0 0, .bool false] 29)) = w3 at *
  have HW3 := Lib.hid hw3
  have hs3 := hw3.size
  have o0 := x1.cell 0
  have o1 := x1.cell 1
  have o2 := x1.cell 2
  have o3 := x1.cell 3
  have o4 := x1.cell 4
  simp only [List.getElem?_toArray, List.getElem?_cons_zero, List.getElem?_cons_succ] at o0 o1 o2 o3 o4
  clear hw3
  have p0 := x0.cell 0
  have p1 := x0.cell 1
  simp only [List.getElem?_toArray, List.getElem?_cons_zero, List.getElem?_cons_succ] at p0 p1
  have HC := refTake_any A2 c2 ms cl n _ w3 HV.out (by omega) hon HFM.out (by rw [hV.out]; omega) (HZ.out w3 HW3.out)
  rw [hV.out, ← HS'.out] at HC
  replace HC := Lib.hid HC
  have HP := fun (W : World) (hW : PipeAt W base pb (fun _ => False) A c ls cl) (hWs : base ≤ W.heap.size) (hWX : BV.ok W (fun b => b ≠ pb ∧ ablk A ≠ some b) ⟨xA, xc, xl⟩) => pipeTake_any base pb (fun _ => False) A c ls cl W hW n hon (by rw [hS.out]; omega) hWs
  rw [hS.out, ← HS'.out] at HP
  replace HP := Lib.hid HP
  go_wp2_with fail
  refine HC.out.mono ?_
  rintro e w4 ⟨A5, c5, ls5, B5, d5, l5, rfl, hr5, hS5, hl5, ho5, hb4⟩
  have hba : Below w4.heap.size w4 (w4.alloc (.cells #[.slice A5 ls5.length c5, .bool cl] 29)) := (Below.refl _ _).alloc (Nat.le_refl _) _
  have y5 : Blk (w4.alloc (.cells #[.slice A5 ls5.length c5, .bool cl] 29)) w4.heap.size 29 #[.slice A5 ls5.length c5, .bool cl] := Blk.new w4 29 _
  have l45 : w.heap.size + 1 + 1 < w4.heap.size := Nat.lt_of_lt_of_le x2.lt hb4.size
  have FR5 := Lib.hid ((FR.out.then_below hb4).then_below hba)
  have HD5 := Lib.hid ((HD.out.below hb4).below hba)
  have HR5 := Lib.hid (hr5.below hba)
  have HY5 : Hid (By (w4.alloc (.cells #[.slice A5 ls5.length c5, .bool cl] 29)) (fun b => b ≠ pb ∧ ablk A ≠ some b) B5 l5) := Lib.hid (((ho5.rd.mono (fun b _ hb => HZ.out w3 HW3.out b ((Row.of_own ho5).lt b hb).1))).below hba)
  clear ho5
  have HX5 := Lib.hid ((HX.out.below hb4).below hba)
  have y1 := (x1.below hb4).below hba
  have y2 := (x2.below hb4).below hba
  have hs5 := hba.size
  clear HC HX x0 x1 x2 p0 p1 o0 o1 o2 o3 o4 hr5 FR HD HV
  go_upto_region 7 with (fail)
  generalize w4.alloc (.cells #[.slice A5 ls5.length c5, .bool cl] 29) = w5 at *
  clear hba hb4
  go_wp2_with fail
  refine wp_region_line (.tell 0 (.tell 1 (.tell 2 (.tell 3 (.tell 5 (.one 4 (.one 6 (.one 7 .done)))))))) (fun W => Fr (fun x => x < w.heap.size ∨ x = w.heap.size + 1 + 1) w5 W) (by kernel_rfl) (by kernel_rfl) ?_
  refine pl_val (by (simp only [List.getElem?_toArray, List.getElem?_cons_zero]; rfl)) (by kernel_rfl) ⟨_, (by (intro w' hC; have q0 := (y5.fr hC (by omega)).cell 0; have q1 := (y5.fr hC (by omega)).cell 1; simp only [List.getElem?_toArray, List.getElem?_cons_zero, List.getElem?_cons_succ] at q0 q1; clear hC; (try go_simp); (try with_reducible rfl); done)), _, (by (simp only [Act.put, List.setIfInBounds_toArray, List.set_cons_zero, List.set_cons_succ]; rfl)), ?_⟩
  refine pl_val (by (simp only [List.getElem?_toArray, List.getElem?_cons_succ, List.getElem?_cons_zero]; rfl)) (by kernel_rfl) ⟨_, (by (intro w' hC; clear hC; (try go_simp); (try with_reducible rfl); done)), _, (by (simp only [Act.put, List.setIfInBounds_toArray, List.set_cons_zero, List.set_cons_succ]; rfl)), ?_⟩
  refine pl_val (by (simp only [List.getElem?_toArray, List.getElem?_cons_succ, List.getElem?_cons_zero]; rfl)) (by kernel_rfl) ⟨_, (by (intro w' hC; clear hC; (try go_simp); (try with_reducible rfl); done)), _, (by (simp only [Act.put, List.setIfInBounds_toArray, List.set_cons_zero, List.set_cons_succ]; rfl)), ?_⟩
  refine pl_val (by (simp only [List.getElem?_toArray, List.getElem?_cons_succ, List.getElem?_cons_zero]; rfl)) (by kernel_rfl) ⟨_, (by (intro w' hC; have q := (y1.fr hC (by omega)).cell 1; simp only [List.getElem?_toArray, List.getElem?_cons_zero, List.getElem?_cons_succ] at q; clear hC; (try go_simp); (try with_reducible rfl); done)), _, (by (simp only [Act.put, List.setIfInBounds_toArray, List.set_cons_zero, List.set_cons_succ]; rfl)), ?_⟩
  refine pl_val (by (simp only [List.getElem?_toArray, List.getElem?_cons_succ, List.getElem?_cons_zero]; rfl)) (by kernel_rfl) ⟨_, (by (intro w' hC; clear hC; (try go_simp); (try with_reducible rfl); done)), _, (by (simp only [Act.put, List.setIfInBounds_toArray, List.set_cons_zero, List.set_cons_succ]; rfl)), ?_⟩
  have hB5 : Below w5.heap.size w5 w5.drew := (Below.refl _ _).drew
  have hC0 : Fr (fun x => x < w.heap.size ∨ x = w.heap.size + 1 + 1) w5 w5.drew := (Fr.refl _ w5).drew
  refine pl_one (by (simp only [List.getElem?_toArray, List.getElem?_cons_succ, List.getElem?_cons_zero]; rfl)) hC0 ?_
  refine al_call (by kernel_rfl) (by go_simp; done) (HP.out w5.drew (HD5.out.below hB5) (by have := hB5.size; omega) (HX5.out.below hB5)) ?_
  rintro e w6 ⟨A7, c7, l7, rfl, hl7, ho7, h6⟩
  replace h6 : PipeTo w5 base pb (fun _ => False) A S' cl w6 := ⟨by
    obtain ⟨A', c', ls', q1, q2, q3⟩ := h6.at_
    exact ⟨A', c', ls', q1, q2, q3⟩, (Fr.of_below hB5 _).trans h6.fr (fun _ _ e => e)⟩
  refine ⟨_, rfl, _, (by (simp only [Act.put, List.setIfInBounds_toArray, List.set_cons_zero, List.set_cons_succ]; rfl)), ?_⟩
  have h6S : Fr (fun x => x < w.heap.size ∨ x = w.heap.size + 1 + 1) w5 w6 := h6.fr.mono (fun x _ e => .inl (by
    rcases e with e | e
    · omega
    · exact HAL.out x e))
  have z2 := y2.fr h6.fr (fun e => by
    rcases e with e | e
    · omega
    · have := HAL.out _ e; omega)
  have HY6 := HY5.out.fr h6.fr (fun b _ hz e => e.elim hz.1 hz.2)
  have hsm := refSame_any A7 B5 c7 d5 l7 l5 _ _ w6 ho7.rd HY6
  rw [show l7 = l5 from hl7.out.trans hl5.out.symm, show (l5 == l5) = true from by simp] at hsm
  rw [show l7 = l5 from hl7.out.trans hl5.out.symm]
  refine pl_one (by (simp only [List.getElem?_toArray, List.getElem?_cons_succ, List.getElem?_cons_zero]; rfl)) h6S ?_
  refine al_call (by kernel_rfl) (by go_simp; done) hsm ?_
  rintro e w7 ⟨rfl, rfl⟩
  refine ⟨_, rfl, _, (by (simp only [Act.put, List.setIfInBounds_toArray, List.set_cons_zero, List.set_cons_succ]; rfl)), ?_⟩
  have fr := fun o => z2.frozen o
  have r0 := z2.cell 0
  have r1 := z2.cell 1
  simp only [List.getElem?_toArray, List.getElem?_cons_zero, List.getElem?_cons_succ] at r0 r1
  refine pl_one (by (simp only [List.getElem?_toArray, List.getElem?_cons_succ, List.getElem?_cons_zero]; rfl)) h6S ?_
  refine al_skip (by kernel_rfl) ⟨_, (by (go_simp; first | done | rfl)), _, (by (simp only [Act.put]; rfl)), ?_⟩
  refine pl_end ((h6S.setAt (w.heap.size + 1 + 1) 0 (.inr rfl) _).setAt (w.heap.size + 1 + 1) 1 (.inr rfl) _) ?_
  simp only [Plan.count, Nat.reduceAdd, List.drop_succ_cons, List.drop_zero]
  clear HP hC0 h6S y1 y5 HX5
  go_wp2_with fail
  have kR : Fr (fun x => x = w.heap.size + 1 + 1) w6 ((w6.setCell ⟨w.heap.size + 1 + 1, 0, none⟩ (.slice A5 ls5.length c5)).setCell ⟨w.heap.size + 1 + 1, 1, none⟩ (.bool cl)) := (((Fr.refl (fun x => x = w.heap.size + 1 + 1) w6).setAt (w.heap.size + 1 + 1) _ rfl _).setAt (w.heap.size + 1 + 1) _ rfl _)
  have yR := ((z2.set_ 0 (.slice A5 ls5.length c5)).set_ 1 (.bool cl))
  simp only [List.setIfInBounds_toArray, List.set_cons_zero, List.set_cons_succ] at yR
  generalize ((w6.setCell ⟨w.heap.size + 1 + 1, 0, none⟩ (.slice A5 ls5.length c5)).setCell ⟨w.heap.size + 1 + 1, 1, none⟩ (.bool cl)) = wR at *
  have s0 := yR.cell 0
  have s1 := yR.cell 1
  simp only [List.getElem?_toArray, List.getElem?_cons_zero, List.getElem?_cons_succ] at s0 s1
  refine bodyPost_ret (v := .tuple #[.agg #[.slice A5 ls5.length c5, .bool cl], .bool true]) (by simp [results, Try.results7, go_sem, s0, s1]) rfl ?_
  exact DoP.mk' pl FR5.out h6 HR5.out hS5 z2 (by omega) kR rfl


set_option maxRecDepth 100000 in
set_option maxHeartbeats 4000000 in
theorem do16_cut (base pb : Nat) (A : Option Addr) (c : Nat) (ls : List PV) (cl : Bool) (A2 : Option Addr) (c2 : Nat) (ms : List PV) (S : List PP) (n bit : Int) (mask : Nat) (xA : Option Addr) (xc : Nat) (xl : List UInt8) (w : World) (hd : PipeAt w base pb (fun _ => False) A c ls cl) (hS : Hid (ls.map PV.s = S)) (hv : RefP w (fun b => b ≠ pb ∧ ablk A ≠ some b) A2 c2 ms) (hV : Hid (ms.map PV.s = S)) (ho : OpP.ok w (fun b => b < base) ⟨5, n, bit, mask, ⟨xA, xc, xl⟩⟩) (hlen : S.length ≤ 1000) (hfl : (flatP S).length ≤ 20000) (hbase : base ≤ w.heap.size) (hpbb : base ≤ pb) :
    Calls Try.prog 7 #[.pointer (some ⟨pb, 0, none⟩), .agg #[.slice A2 ms.length c2, .bool cl], .agg #[.int .i64 5, .int .i64 n, .int .i64 bit, .int .u32 (mask : Int), .slice xA xl.length xc]] w fun e w' => DoP w base pb A (cutS S n) true e w' := by
  obtain ⟨S', hS'⟩ : ∃ S', S' = (cutS S n) := ⟨_, rfl⟩
  rw [← hS']
  have HS' := Lib.hid hS'
  clear hS'

  have hw3 : Below w.heap.size w (((w.alloc (.cells #[.slice A2 ms.length c2, .bool cl] 29)).alloc (.cells #[.int .i64 5, .int .i64 n, .int .i64 bit, .int .u32 (mask : Int), .slice xA xl.length xc] 33)).alloc (.cells #[.slice none 0 0, .bool false] 29)) := (((Below.refl _ _).alloc (Nat.le_refl _) _).alloc (by simp) _).alloc (by simp; omega) _
  have x0 : Blk (((w.alloc (.cells #[.slice A2 ms.length c2, .bool cl] 29)).alloc (.cells #[.int .i64 5, .int .i64 n, .int .i64 bit, .int .u32 (mask : Int), .slice xA xl.length xc] 33)).alloc (.cells #[.slice none 0 0, .bool false] 29)) w.heap.size 29 #[.slice A2 ms.length c2, .bool cl] := (Blk.new w 29 #[.slice A2 ms.length c2, .bool cl]).below ((((Below.refl _ _).alloc (Nat.le_refl _) _)).alloc (by simp) _)
  have x1 : Blk (((w.alloc (.cells #[.slice A2 ms.length c2, .bool cl] 29)).alloc (.cells #[.int .i64 5, .int .i64 n, .int .i64 bit, .int .u32 (mask : Int), .slice xA xl.length xc] 33)).alloc (.cells #[.slice none 0 0, .bool false] 29)) (w.heap.size + 1) 33 #[.int .i64 5, .int .i64 n, .int .i64 bit, .int .u32 (mask : Int), .slice xA xl.length xc] := by
    have := (Blk.new (w.alloc (.cells #[.slice A2 ms.length c2, .bool cl] 29)) 33 #[.int .i64 5, .int .i64 n, .int .i64 bit, .int .u32 (mask : Int), .slice xA xl.length xc]).below ((Below.refl _ _).alloc (Nat.le_refl _) (.cells #[.slice none 0 0, .bool false] 29))
    rwa [show (w.alloc (.cells #[.slice A2 ms.length c2, .bool cl] 29)).heap.size = w.heap.size + 1 by simp] at this
  have x2 : Blk (((w.alloc (.cells #[.slice A2 ms.length c2, .bool cl] 29)).alloc (.cells #[.int .i64 5, .int .i64 n, .int .i64 bit, .int .u32 (mask : Int), .slice xA xl.length xc] 33)).alloc (.cells #[.slice none 0 0, .bool false] 29)) (w.heap.size + 1 + 1) 29 #[.slice none 0 0, .bool false] := by
    have := Blk.new ((w.alloc (.cells #[.slice A2 ms.length c2, .bool cl] 29)).alloc (.cells #[.int .i64 5, .int .i64 n, .int .i64 bit, .int .u32 (mask : Int), .slice xA xl.length xc] 33)) 29 #[.slice none 0 0, .bool false]
    rwa [show ((w.alloc (.cells #[.slice A2 ms.length c2, .bool cl] 29)).alloc (.cells #[.int .i64 5, .int .i64 n, .int .i64 bit, .int .u32 (mask : Int), .slice xA xl.length xc] 33)).heap.size = w.heap.size + 1 + 1 by simp] at this
  have pl := hd.blk.lt
  have hal := fun k hk => (hd.row.lt k hk).2
  have hfull := hd.full
  have hsl : ls.length ≤ 1000 := by have := congrArg List.length hS.out; rw [List.length_map] at this; omega
  have hml : ms.length ≤ 1000 := by have := congrArg List.length hV.out; rw [List.length_map] at this; omega
  have hlenL := len_of hS.out
  have hlenM := len_of hV.out
  have hfm := full_of hS.out hV.out hfull
  have HD := Lib.hid (hd.below hw3)
  have HV := Lib.hid (hv.below hw3)
  have HX := Lib.hid ((ho.x.mono (Z' := fun b => b ≠ pb ∧ ablk A ≠ some b) (fun b _ hz => ⟨by omega, fun e => by have := (hd.row.lt b e).1; omega⟩)).below hw3)
  have hon := ho.n
  have hxlen := ho.len
  have hob := ho.b
  have hom := ho.m
  try dsimp only at hon hob hom hxlen
  have hoz : ∀ W, Below w.heap.size w W → ∀ b, W.heap.size ≤ b → b ≠ pb ∧ ablk A ≠ some b := fun W hW b hb => by
    have := hW.size
    exact ⟨by omega, fun e => by have := hal b e; omega⟩
  have HZ := Lib.hid hoz
  have FR := Lib.hid (Fr.of_below hw3 (fun k => k = pb ∨ ablk A = some k))
  have HAL := Lib.hid hal
  have HFM := Lib.hid hfm
  have HLL := Lib.hid hlenL
  have HLM := Lib.hid hlenM
  clear hd hv ho hoz hal hfull hfm hlenL hlenM
  go_enter Try.func7, Try.ntmps7
  go_upto_region 1 with (fail)
  generalize (((w.alloc (.cells #[.slice A2 ms.length c2, .bool cl] 29)).alloc (.cells #[.int .i64 5, .int .i64 n, .int .i64 bit, .int .u32 (mask : Int), .slice xA xl.length xc] 33)).alloc (.cells #[.slice none 0 0, .bool false] 29)) = w3 at *
  have HW3 := Lib.hid hw3
  have hs3 := hw3.size
  have o0 := x1.cell 0
  have o1 := x1.cell 1
  have o2 := x1.cell 2
  have o3 := x1.cell 3
  have o4 := x1.cell 4
  simp only [List.getElem?_toArray, List.getElem?_cons_zero, List.getElem?_cons_succ] at o0 o1 o2 o3 o4
  clear hw3
  have HC := pipeCut_any base pb (fun _ => False) A c ls cl w3 HD.out n hon (by omega) (fun p hp => by have := HLL.out p hp; omega) (by omega)
  rw [hS.out, ← HS'.out] at HC
  replace HC := Lib.hid HC
  go_wp2_with fail
  refine HC.out.mono ?_
  rintro e w4 ⟨rfl, h4⟩
  obtain ⟨A1, c1, ls1, hp1, hS1, hA1⟩ := h4.at_
  have ne0 : ∀ k, w.heap.size ≤ k → ¬ (k = pb ∨ ablk A = some k) := fun k hk e => by
    rcases e with e | e
    · omega
    · have := HAL.out k e; omega
  have y0 := x0.fr h4.fr (ne0 _ (by omega))
  have y1 := x1.fr h4.fr (ne0 _ (by omega))
  have y2 := x2.fr h4.fr (ne0 _ (by omega))
  have lt4 := fun k hk => (hp1.row.lt k hk).2
  have hpb4 := hp1.blk.lt
  have hv4 : RefP w4 (fun b => b ≠ pb ∧ ablk A1 ≠ some b) A2 c2 ms := ((HV.out.mono (Z' := fun b => (b ≠ pb ∧ ablk A ≠ some b) ∧ b < w3.heap.size) (fun b hb hz => ⟨hz, hb⟩)).fr h4.fr (fun b _ hz e => e.elim hz.1.1 hz.1.2)).mono (fun b _ hz => ⟨hz.1.1, fun e => by
    rcases hA1 b e with h | h
    · exact hz.1.2 h
    · have := hz.2; omega⟩)
  have HC2 := refCut_any A2 c2 ms cl n _ w4 hv4 (by omega) hon (fun p hp => by have := HLM.out p hp; omega) (fun b hb => ⟨by omega, fun e => by have := lt4 b e; omega⟩)
  rw [hV.out, ← HS'.out] at HC2
  replace HC2 := Lib.hid HC2
  have FR4 := Lib.hid (FR.out.trans h4.fr (fun _ _ e => e))
  have HP1 := Lib.hid hp1
  clear HC HX x0 x1 x2 o0 o1 o2 o3 o4 FR HD HV h4 hp1 hv4 hA1 lt4
  have p0 := y0.cell 0
  have p1 := y0.cell 1
  simp only [List.getElem?_toArray, List.getElem?_cons_zero, List.getElem?_cons_succ] at p0 p1
  have o0 := y1.cell 0
  have o1 := y1.cell 1
  have o2 := y1.cell 2
  have o3 := y1.cell 3
  have o4 := y1.cell 4
  simp only [List.getElem?_toArray, List.getElem?_cons_zero, List.getElem?_cons_succ] at o0 o1 o2 o3 o4
  go_wp2_with fail
  refine HC2.out.mono ?_
  rintro e w5 ⟨A5, c5, ls5, rfl, hr5, hS5, hb5⟩
  have z2 := y2.below hb5
  have HPA := Lib.hid (HP1.out.below hb5)
  have FR5 := FR4.out.then_below hb5
  have fr := fun o => z2.frozen o
  have r0 := z2.cell 0
  have r1 := z2.cell 1
  simp only [List.getElem?_toArray, List.getElem?_cons_zero, List.getElem?_cons_succ] at r0 r1
  clear HC2 y0 y1 p0 p1 o0 o1 o2 o3 o4
  go_wp2_with fail
  have kR : Fr (fun x => x = w.heap.size + 1 + 1) w5 ((w5.setCell ⟨w.heap.size + 1 + 1, 0, none⟩ (.slice A5 ls5.length c5)).setCell ⟨w.heap.size + 1 + 1, 1, none⟩ (.bool true)) := (((Fr.refl (fun x => x = w.heap.size + 1 + 1) w5).setAt (w.heap.size + 1 + 1) _ rfl _).setAt (w.heap.size + 1 + 1) _ rfl _)
  have yR := ((z2.set_ 0 (.slice A5 ls5.length c5)).set_ 1 (.bool true))
  simp only [List.setIfInBounds_toArray, List.set_cons_zero, List.set_cons_succ] at yR
  generalize ((w5.setCell ⟨w.heap.size + 1 + 1, 0, none⟩ (.slice A5 ls5.length c5)).setCell ⟨w.heap.size + 1 + 1, 1, none⟩ (.bool true)) = wR at *
  have s0 := yR.cell 0
  have s1 := yR.cell 1
  simp only [List.getElem?_toArray, List.getElem?_cons_zero, List.getElem?_cons_succ] at s0 s1
  refine bodyPost_ret (v := .tuple #[.agg #[.slice A5 ls5.length c5, .bool true], .bool true]) (by simp [results, Try.results7, go_sem, s0, s1]) rfl ?_
  exact ⟨⟨A1, c1, ls1, A5, c5, ls5, rfl, HPA.out.putR z2 kR (by omega), hS1, hr5.putR z2 kR, hS5⟩, FR5.trans kR (fun x hx e => by omega)⟩


set_option maxRecDepth 100000 in
set_option maxHeartbeats 4000000 in
theorem do16_open (base pb : Nat) (A : Option Addr) (c : Nat) (ls : List PV) (cl : Bool) (A2 : Option Addr) (c2 : Nat) (ms : List PV) (S : List PP) (n bit : Int) (mask : Nat) (xA : Option Addr) (xc : Nat) (xl : List UInt8) (w : World) (hd : PipeAt w base pb (fun _ => False) A c ls cl) (hS : Hid (ls.map PV.s = S)) (hv : RefP w (fun b => b ≠ pb ∧ ablk A ≠ some b) A2 c2 ms) (hV : Hid (ms.map PV.s = S)) (ho : OpP.ok w (fun b => b < base) ⟨6, n, bit, mask, ⟨xA, xc, xl⟩⟩) (hlen : S.length ≤ 1000) (hfl : (flatP S).length ≤ 20000) (hbase : base ≤ w.heap.size) (hpbb : base ≤ pb) :
    Calls Try.prog 7 #[.pointer (some ⟨pb, 0, none⟩), .agg #[.slice A2 ms.length c2, .bool cl], .agg #[.int .i64 6, .int .i64 n, .int .i64 bit, .int .u32 (mask : Int), .slice xA xl.length xc]] w fun e w' => DoP w base pb A (([] : List PP)) false e w' := by
  obtain ⟨S', hS'⟩ : ∃ S', S' = (([] : List PP)) := ⟨_, rfl⟩
  rw [← hS']
  have HS' := Lib.hid hS'
  clear hS'

  have hw3 : Below w.heap.size w (((w.alloc (.cells #[.slice A2 ms.length c2, .bool cl] 29)).alloc (.cells #[.int .i64 6, .int .i64 n, .int .i64 bit, .int .u32 (mask : Int), .slice xA xl.length xc] 33)).alloc (.cells #[.slice none 0 0, .bool false] 29)) := (((Below.refl _ _).alloc (Nat.le_refl _) _).alloc (by simp) _).alloc (by simp; omega) _
  have x0 : Blk (((w.alloc (.cells #[.slice A2 ms.length c2, .bool cl] 29)).alloc (.cells #[.int .i64 6, .int .i64 n, .int .i64 bit, .int .u32 (mask : Int), .slice xA xl.length xc] 33)).alloc (.cells #[.slice none 0 0, .bool false] 29)) w.heap.size 29 #[.slice A2 ms.length c2, .bool cl] := (Blk.new w 29 #[.slice A2 ms.length c2, .bool cl]).below ((((Below.refl _ _).alloc (Nat.le_refl _) _)).alloc (by simp) _)
  have x1 : Blk (((w.alloc (.cells #[.slice A2 ms.length c2, .bool cl] 29)).alloc (.cells #[.int .i64 6, .int .i64 n, .int .i64 bit, .int .u32 (mask : Int), .slice xA xl.length xc] 33)).alloc (.cells #[.slice none 0 0, .bool false] 29)) (w.heap.size + 1) 33 #[.int .i64 6, .int .i64 n, .int .i64 bit, .int .u32 (mask : Int), .slice xA xl.length xc] := by
    have := (Blk.new (w.alloc (.cells #[.slice A2 ms.length c2, .bool cl] 29)) 33 #[.int .i64 6, .int .i64 n, .int .i64 bit, .int .u32 (mask : Int), .slice xA xl.length xc]).below ((Below.refl _ _).alloc (Nat.le_refl _) (.cells #[.slice none 0 0, .bool false] 29))
    rwa [show (w.alloc (.cells #[.slice A2 ms.length c2, .bool cl] 29)).heap.size = w.heap.size + 1 by simp] at this
  have x2 : Blk (((w.alloc (.cells #[.slice A2 ms.length c2, .bool cl] 29)).alloc (.cells #[.int .i64 6, .int .i64 n, .int .i64 bit, .int .u32 (mask : Int), .slice xA xl.length xc] 33)).alloc (.cells #[.slice none 0 0, .bool false] 29)) (w.heap.size + 1 + 1) 29 #[.slice none 0 0, .bool false] := by
    have := Blk.new ((w.alloc (.cells #[.slice A2 ms.length c2, .bool cl] 29)).alloc (.cells #[.int .i64 6, .int .i64 n, .int .i64 bit, .int .u32 (mask : Int), .slice xA xl.length xc] 33)) 29 #[.slice none 0 0, .bool false]
    rwa [show ((w.alloc (.cells #[.slice A2 ms.length c2, .bool cl] 29)).alloc (.cells #[.int .i64 6, .int .i64 n, .int .i64 bit, .int .u32 (mask : Int), .slice xA xl.length xc] 33)).heap.size = w.heap.size + 1 + 1 by simp] at this
  have pl := hd.blk.lt
  have hal := fun k hk => (hd.row.lt k hk).2
  have hfull := hd.full
  have hsl : ls.length ≤ 1000 := by have := congrArg List.length hS.out; rw [List.length_map] at this; omega
  have hml : ms.length ≤ 1000 := by have := congrArg List.length hV.out; rw [List.length_map] at this; omega
  have hlenL := len_of hS.out
  have hlenM := len_of hV.out
  have hfm := full_of hS.out hV.out hfull
  have HD := Lib.hid (hd.below hw3)
  have HV := Lib.hid (hv.below hw3)
  have HX := Lib.hid ((ho.x.mono (Z' := fun b => b ≠ pb ∧ ablk A ≠ some b) (fun b _ hz => ⟨by omega, fun e => by have := (hd.row.lt b e).1; omega⟩)).below hw3)
  have hon := ho.n
  have hxlen := ho.len
  have hob := ho.b
  have hom := ho.m
  try dsimp only at hon hob hom hxlen
  have hoz : ∀ W, Below w.heap.size w W → ∀ b, W.heap.size ≤ b → b ≠ pb ∧ ablk A ≠ some b := fun W hW b hb => by
    have := hW.size
    exact ⟨by omega, fun e => by have := hal b e; omega⟩
  have HZ := Lib.hid hoz
  have FR := Lib.hid (Fr.of_below hw3 (fun k => k = pb ∨ ablk A = some k))
  have HAL := Lib.hid hal
  have HFM := Lib.hid hfm
  have HLL := Lib.hid hlenL
  have HLM := Lib.hid hlenM
  clear hd hv ho hoz hal hfull hfm hlenL hlenM
  go_enter Try.func7, Try.ntmps7
  go_upto_region 1 with (fail)
  generalize (((w.alloc (.cells #[.slice A2 ms.length c2, .bool cl] 29)).alloc (.cells #[.int .i64 6, .int .i64 n, .int .i64 bit, .int .u32 (mask : Int), .slice xA xl.length xc] 33)).alloc (.cells #[.slice none 0 0, .bool false] 29)) = w3 at *
  have HW3 := Lib.hid hw3
  have hs3 := hw3.size
  have o0 := x1.cell 0
  have o1 := x1.cell 1
  have o2 := x1.cell 2
  have o3 := x1.cell 3
  have o4 := x1.cell 4
  simp only [List.getElem?_toArray, List.getElem?_cons_zero, List.getElem?_cons_succ] at o0 o1 o2 o3 o4
  clear hw3
  have HC := pipeOpen_any base pb (fun _ => False) A c ls cl w3 HD.out
  replace HC := Lib.hid HC
  go_wp2_with fail
  refine HC.out.mono ?_
  rintro e w4 ⟨rfl, h4⟩
  have ne0 : ∀ k, w.heap.size ≤ k → ¬ (k = pb ∨ ablk A = some k) := fun k hk e => by
    rcases e with e | e
    · omega
    · have := HAL.out k e; omega
  have z2 := x2.fr h4.fr (ne0 _ (by omega))
  have fr := fun o => z2.frozen o
  have r0 := z2.cell 0
  have r1 := z2.cell 1
  simp only [List.getElem?_toArray, List.getElem?_cons_zero, List.getElem?_cons_succ] at r0 r1
  clear HC x0 x1 o0 o1 o2 o3 o4 HX HV
  go_wp2_with fail
  have kR : Fr (fun x => x = w.heap.size + 1 + 1) w4 ((w4.setCell ⟨w.heap.size + 1 + 1, 0, none⟩ (.slice none 0 0)).setCell ⟨w.heap.size + 1 + 1, 1, none⟩ (.bool false)) := (((Fr.refl (fun x => x = w.heap.size + 1 + 1) w4).setAt (w.heap.size + 1 + 1) _ rfl _).setAt (w.heap.size + 1 + 1) _ rfl _)
  have yR := ((z2.set_ 0 (.slice none 0 0)).set_ 1 (.bool false))
  simp only [List.setIfInBounds_toArray, List.set_cons_zero, List.set_cons_succ] at yR
  generalize ((w4.setCell ⟨w.heap.size + 1 + 1, 0, none⟩ (.slice none 0 0)).setCell ⟨w.heap.size + 1 + 1, 1, none⟩ (.bool false)) = wR at *
  have s0 := yR.cell 0
  have s1 := yR.cell 1
  simp only [List.getElem?_toArray, List.getElem?_cons_zero, List.getElem?_cons_succ] at s0 s1
  refine bodyPost_ret (v := .tuple #[.agg #[.slice none 0 0, .bool false], .bool true]) (by simp [results, Try.results7, go_sem, s0, s1]) rfl ?_
  rw [HS'.out]
  exact DoP.mk' (A5 := none) (c5 := 0) (ls5 := []) pl FR.out h4 (RefP.nil _) (Lib.hid rfl) z2 (by omega) kR rfl


set_option maxRecDepth 100000 in
set_option maxHeartbeats 4000000 in
theorem do16_other (base pb : Nat) (A : Option Addr) (c : Nat) (ls : List PV) (cl : Bool) (A2 : Option Addr) (c2 : Nat) (ms : List PV) (S : List PP) (kind : Int) (h1 : kind ≠ 1) (h2 : kind ≠ 2) (h3 : kind ≠ 3) (h4 : kind ≠ 4) (h5 : kind ≠ 5) (h6 : kind ≠ 6) (n bit : Int) (mask : Nat) (xA : Option Addr) (xc : Nat) (xl : List UInt8) (w : World) (hd : PipeAt w base pb (fun _ => False) A c ls cl) (hS : Hid (ls.map PV.s = S)) (hv : RefP w (fun b => b ≠ pb ∧ ablk A ≠ some b) A2 c2 ms) (hV : Hid (ms.map PV.s = S)) (ho : OpP.ok w (fun b => b < base) ⟨kind, n, bit, mask, ⟨xA, xc, xl⟩⟩) (hlen : S.length ≤ 1000) (hfl : (flatP S).length ≤ 20000) (hbase : base ≤ w.heap.size) (hpbb : base ≤ pb) :
    Calls Try.prog 7 #[.pointer (some ⟨pb, 0, none⟩), .agg #[.slice A2 ms.length c2, .bool cl], .agg #[.int .i64 kind, .int .i64 n, .int .i64 bit, .int .u32 (mask : Int), .slice xA xl.length xc]] w fun e w' => DoP w base pb A (S) cl e w' := by
  obtain ⟨S', hS'⟩ : ∃ S', S' = (S) := ⟨_, rfl⟩
  rw [← hS']
  have HS' := Lib.hid hS'
  clear hS'
  have hn1 : (kind == 1) = false := by simpa using h1
  have hn2 : (kind == 2) = false := by simpa using h2
  have hn3 : (kind == 3) = false := by simpa using h3
  have hn4 : (kind == 4) = false := by simpa using h4
  have hn5 : (kind == 5) = false := by simpa using h5
  have hn6 : (kind == 6) = false := by simpa using h6
  have hw3 : Below w.heap.size w (((w.alloc (.cells #[.slice A2 ms.length c2, .bool cl] 29)).alloc (.cells #[.int .i64 kind, .int .i64 n, .int .i64 bit, .int .u32 (mask : Int), .slice xA xl.length xc] 33)).alloc (.cells #[.slice none 0 0, .bool false] 29)) := (((Below.refl _ _).alloc (Nat.le_refl _) _).alloc (by simp) _).alloc (by simp; omega) _
  have x0 : Blk (((w.alloc (.cells #[.slice A2 ms.length c2, .bool cl] 29)).alloc (.cells #[.int .i64 kind, .int .i64 n, .int .i64 bit, .int .u32 (mask : Int), .slice xA xl.length xc] 33)).alloc (.cells #[.slice none 0 0, .bool false] 29)) w.heap.size 29 #[.slice A2 ms.length c2, .bool cl] := (Blk.new w 29 #[.slice A2 ms.length c2, .bool cl]).below ((((Below.refl _ _).alloc (Nat.le_refl _) _)).alloc (by simp) _)
  have x1 : Blk (((w.alloc (.cells #[.slice A2 ms.length c2, .bool cl] 29)).alloc (.cells #[.int .i64 kind, .int .i64 n, .int .i64 bit, .int .u32 (mask : Int), .slice xA xl.length xc] 33)).alloc (.cells #[.slice none 0 0, .bool false] 29)) (w.heap.size + 1) 33 #[.int .i64 kind, .int .i64 n, .int .i64 bit, .int .u32 (mask : Int), .slice xA xl.length xc] := by
    have := (Blk.new (w.alloc (.cells #[.slice A2 ms.length c2, .bool cl] 29)) 33 #[.int .i64 kind, .int .i64 n, .int .i64 bit, .int .u32 (mask : Int), .slice xA xl.length xc]).below ((Below.refl _ _).alloc (Nat.le_refl _) (.cells #[.slice none 0 0, .bool false] 29))
    rwa [show (w.alloc (.cells #[.slice A2 ms.length c2, .bool cl] 29)).heap.size = w.heap.size + 1 by simp] at this
  have x2 : Blk (((w.alloc (.cells #[.slice A2 ms.length c2, .bool cl] 29)).alloc (.cells #[.int .i64 kind, .int .i64 n, .int .i64 bit, .int .u32 (mask : Int), .slice xA xl.length xc] 33)).alloc (.cells #[.slice none 0 0, .bool false] 29)) (w.heap.size + 1 + 1) 29 #[.slice none 0 0, .bool false] := by
    have := Blk.new ((w.alloc (.cells #[.slice A2 ms.length c2, .bool cl] 29)).alloc (.cells #[.int .i64 kind, .int .i64 n, .int .i64 bit, .int .u32 (mask : Int), .slice xA xl.length xc] 33)) 29 #[.slice none 0 0, .bool false]
    rwa [show ((w.alloc (.cells #[.slice A2 ms.length c2, .bool cl] 29)).alloc (.cells #[.int .i64 kind, .int .i64 n, .int .i64 bit, .int .u32 (mask : Int), .slice xA xl.length xc] 33)).heap.size = w.heap.size + 1 + 1 by simp] at this
  have pl := hd.blk.lt
  have hal := fun k hk => (hd.row.lt k hk).2
  have hfull := hd.full
  have hsl : ls.length ≤ 1000 := by have := congrArg List.length hS.out; rw [List.length_map] at this; omega
  have hml : ms.length ≤ 1000 := by have := congrArg List.length hV.out; rw [List.length_map] at this; omega
  have hlenL := len_of hS.out
  have hlenM := len_of hV.out
  have hfm := full_of hS.out hV.out hfull
  have HD := Lib.hid (hd.below hw3)
  have HV := Lib.hid (hv.below hw3)
  have HX := Lib.hid ((ho.x.mono (Z' := fun b => b ≠ pb ∧ ablk A ≠ some b) (fun b _ hz => ⟨by omega, fun e => by have := (hd.row.lt b e).1; omega⟩)).below hw3)
  have hon := ho.n
  have hxlen := ho.len
  have hob := ho.b
  have hom := ho.m
  try dsimp only at hon hob hom hxlen
  have hoz : ∀ W, Below w.heap.size w W → ∀ b, W.heap.size ≤ b → b ≠ pb ∧ ablk A ≠ some b := fun W hW b hb => by
    have := hW.size
    exact ⟨by omega, fun e => by have := hal b e; omega⟩
  have HZ := Lib.hid hoz
  have FR := Lib.hid (Fr.of_below hw3 (fun k => k = pb ∨ ablk A = some k))
  have HAL := Lib.hid hal
  have HFM := Lib.hid hfm
  have HLL := Lib.hid hlenL
  have HLM := Lib.hid hlenM
  clear hd hv ho hoz hal hfull hfm hlenL hlenM
  go_enter Try.func7, Try.ntmps7
  go_upto_region 1 with (fail)
  generalize (((w.alloc (.cells #[.slice A2 ms.length c2, .bool cl] 29)).alloc (.cells #[.int .i64 kind, .int .i64 n, .int .i64 bit, .int .u32 (mask : Int), .slice xA xl.length xc] 33)).alloc (.cells #[.slice none 0 0, .bool false] 29)) = w3 at *
  have HW3 := Lib.hid hw3
  have hs3 := hw3.size
  have o0 := x1.cell 0
  have o1 := x1.cell 1
  have o2 := x1.cell 2
  have o3 := x1.cell 3
  have o4 := x1.cell 4
  simp only [List.getElem?_toArray, List.getElem?_cons_zero, List.getElem?_cons_succ] at o0 o1 o2 o3 o4
  clear hw3
  have p0 := x0.cell 0
  have p1 := x0.cell 1
  simp only [List.getElem?_toArray, List.getElem?_cons_zero, List.getElem?_cons_succ] at p0 p1
  have r0 := x2.cell 0
  have r1 := x2.cell 1
  simp only [List.getElem?_toArray, List.getElem?_cons_zero, List.getElem?_cons_succ] at r0 r1
  have fr := fun o => x2.frozen o
  go_wp2_with fail
  have kR : Fr (fun x => x = w.heap.size + 1 + 1) w3 ((w3.setCell ⟨w.heap.size + 1 + 1, 0, none⟩ (.slice A2 ms.length c2)).setCell ⟨w.heap.size + 1 + 1, 1, none⟩ (.bool cl)) := (((Fr.refl (fun x => x = w.heap.size + 1 + 1) w3).setAt (w.heap.size + 1 + 1) _ rfl _).setAt (w.heap.size + 1 + 1) _ rfl _)
  have yR := ((x2.set_ 0 (.slice A2 ms.length c2)).set_ 1 (.bool cl))
  simp only [List.setIfInBounds_toArray, List.set_cons_zero, List.set_cons_succ] at yR
  generalize ((w3.setCell ⟨w.heap.size + 1 + 1, 0, none⟩ (.slice A2 ms.length c2)).setCell ⟨w.heap.size + 1 + 1, 1, none⟩ (.bool cl)) = wR at *
  have s0 := yR.cell 0
  have s1 := yR.cell 1
  simp only [List.getElem?_toArray, List.getElem?_cons_zero, List.getElem?_cons_succ] at s0 s1
  refine bodyPost_ret (v := .tuple #[.agg #[.slice A2 ms.length c2, .bool cl], .bool true]) (by simp [results, Try.results7, go_sem, s0, s1]) rfl ?_
  rw [HS'.out]
  exact DoP.mk' (A5 := A2) (c5 := c2) (ls5 := ms) pl FR.out (hS.out ▸ HD.out.to) HV.out hV x2 (by omega) kR rfl

end Go.Proofs.Yticfjnjeoikalaa

/- tenderlaw16.lives. -/
namespace Go.Proofs.Yticfjnjeoikalaa
open Go.RowKit

theorem PipeTo.len {w w' : World} {base pb : Nat} {X : Nat → Prop} {A : Option Addr} {S : List (List UInt8 × Bool × Bool)} {cl : Bool} (h : PipeTo w base pb X A S cl w') : ∃ A' c' ls', PipeAt w' base pb X A' c' ls' cl ∧ Hid (ls'.map PV.s = S) ∧ ls'.length = S.length ∧ ∀ g, ablk A' = some g → ablk A = some g ∨ w.heap.size ≤ g := by
  obtain ⟨A', c', ls', h1, h2, h3⟩ := h.at_
  exact ⟨A', c', ls', h1, h2, by have := congrArg List.length h2.out; simpa using this, h3⟩
/-- everything below B stays where the pipe lies above it -/
theorem PipeTo.low {w w' : World} {base pb B c : Nat} {X : Nat → Prop} {A : Option Addr} {ls : List PV} {S : List (List UInt8 × Bool × Bool)} {cl cl' : Bool} (h : PipeTo w base pb X A S cl w') (ha : PipeAt w base pb X A c ls cl') (hp : B ≤ pb) (hB : B ≤ base) (hs : B ≤ w.heap.size) : Below B w w' :=
  h.fr.below hs (fun k hk e => by
    rcases e with rfl | e
    · omega
    · have := (ha.row.lt k e).1; omega)

set_option maxRecDepth 100000 in
set_option maxHeartbeats 1000000 in
theorem lives16_any (w : World) : Calls Try.prog 5 #[] w fun e w' => e = .returned (.bool true) ∧ Below w.heap.size w w' := by
  go_enter Try.func5, Try.ntmps5
  go_wp2_with fail
  refine (pipeNew_any _).mono ?_
  rintro e w1 ⟨rfl, rfl⟩
  have hp1 := PipeAt.new w (base := w.heap.size) (X := fun _ => False)
  have hl1 : Below w.heap.size w (w.alloc (.cells #[.slice none 0 0, .bool false] 43)) := (Below.refl _ _).alloc (Nat.le_refl _) _
  have hs1 : (w.alloc (.cells #[.slice none 0 0, .bool false] 43)).heap.size = w.heap.size + 1 := by simp
  go_wp2_with fail
  generalize w.alloc (.cells #[.slice none 0 0, .bool false] 43) = w1 at *
  rw [← hs1]
  refine (pipeSend_any w.heap.size w.heap.size (fun _ => False) none 0 [] false _ (hp1.below ((Below.refl _ _).alloc (Nat.le_refl _) _)) (some ⟨w1.heap.size, 0, none⟩) 3 [1, 2, 3] (fun _ => True) ?_ (fun _ h => h.elim) ?_ (by simp) (by simp)).mono ?_
  · have e : ([1, 2, 3] : List UInt8).map bv = [.int .u8 1, .int .u8 2, .int .u8 3] := by kernel_rfl
    unfold By
    rw [e]
    exact (Rd.lit rfl rfl (by simp)).mono (fun _ _ _ => trivial)
  · simp; omega
  rintro e w2 ⟨rfl, h2⟩
  rw [show (!false && decide (0 < ([1, 2, 3] : List UInt8).length)) = true from rfl]
  rw [if_pos ⟨rfl, by simp⟩, List.map_nil, List.nil_append] at h2
  have hw2 := (hl1.alloc (by omega) _).trans (h2.low (hp1.below ((Below.refl _ _).alloc (Nat.le_refl _) _)) (Nat.le_refl _) (Nat.le_refl _) (by simp; omega))
  obtain ⟨A2, c2, ls2, hp2, hS2, hn2, _⟩ := h2.len
  have hs2 := hw2.size
  have hs12 := h2.fr.size
  simp at hn2 hs12
  go_wp2_with fail
  refine (pipeSend_any w.heap.size w.heap.size (fun _ => False) A2 c2 ls2 false _ (hp2.below ((Below.refl _ _).alloc (Nat.le_refl _) _)) (some ⟨w2.heap.size, 0, none⟩) 2 [4, 5] (fun _ => True) ?_ (fun _ h => h.elim) ?_ (by omega) (by simp)).mono ?_
  · have e : ([4, 5] : List UInt8).map bv = [.int .u8 4, .int .u8 5] := by kernel_rfl
    unfold By
    rw [e]
    exact (Rd.lit rfl rfl (by simp)).mono (fun _ _ _ => trivial)
  · simp; omega
  rintro e w3 ⟨rfl, h3⟩
  rw [show (!false && decide (0 < ([4, 5] : List UInt8).length)) = true from rfl]
  rw [if_pos ⟨rfl, by simp⟩, hS2.out] at h3
  have hw3 := (hw2.alloc (by omega) _).trans (h3.low (hp2.below ((Below.refl _ _).alloc (Nat.le_refl _) _)) (Nat.le_refl _) (Nat.le_refl _) (by simp; omega))
  obtain ⟨A3, c3, ls3, hp3, hS3, hn3, _⟩ := h3.len
  have hs3 := hw3.size
  simp at hn3
  go_wp2_with fail
  refine (pipeDrop_any w.heap.size w.heap.size (fun _ => False) A3 c3 ls3 false w3 hp3 1 (by omega) (by omega)).mono ?_
  rw [hS3.out, show dropI ([([1, 2, 3], false, false)] ++ [([4, 5], false, false)]) 1 = ([([1, 2, 3], false, false)], true) by decide]
  rintro e w4 ⟨rfl, h4⟩
  have hw4 := hw3.trans (h4.low hp3 (Nat.le_refl _) (Nat.le_refl _) hs3)
  obtain ⟨A4, c4, ls4, hp4, hS4, hn4, _⟩ := h4.len
  have hs4 := hw4.size
  go_wp2_with fail
  refine (pipeTake_any w.heap.size w.heap.size (fun _ => False) A4 c4 ls4 false w4 hp4 9 (by omega) ?_ (by omega)).mono ?_
  · rw [hS4.out]; decide
  rw [hS4.out, show dropS [([1, 2, 3], false, false)] (9 : Int).toNat = [] by decide, show (flatP [([1, 2, 3], false, false)]).take (9 : Int).toNat = [1, 2, 3] by decide]
  rintro e w5 ⟨A5, c5, l5, rfl, hl5, ho5, h5⟩
  obtain rfl : l5 = [1, 2, 3] := hl5.out
  have hw5 := hw4.trans (h5.low hp4 (Nat.le_refl _) (Nat.le_refl _) hs4)
  obtain ⟨A6, c6, ls6, hp6, hS6, hn6, _⟩ := h5.len
  have k : (convert 31 9 (.slice A5 3 c5)).run Try.prog w5 = .ok (.string ⟨#[1, 2, 3]⟩) w5 := conv_by ho5.rd c5
  go_wp2_with fail
  refine (pipeCount_any w.heap.size w.heap.size (fun _ => False) A6 c6 ls6 false w5 hp6).mono ?_
  rintro e w6 ⟨rfl, rfl⟩
  rw [hn6]
  go_wp2_with fail
  refine (pipeClosed_any w.heap.size w.heap.size (fun _ => False) A6 c6 ls6 false w5 hp6).mono ?_
  rintro e w6 ⟨rfl, rfl⟩
  go_wp2_with fail
  go_ret
  exact ⟨rfl, hw5⟩
end Go.Proofs.Yticfjnjeoikalaa

/- PipeCuts is true for every input: what is taken, however it is cut, is what was sent, parcel by parcel, but for those that were dropped. No condition beyond the row's own. -/
namespace Go.Proofs.Yticfjnjeoikalaa
open Go.RowKit

/-- byte slices in a slice -/
structure Bss (w : World) (Z : Nat → Prop) (A : Option Addr) (l : List BV) : Prop where
  rd : Rd w Z 1 A l.length (l.map BV.v)
  ok : ∀ x ∈ l, x.ok w Z
  lens : ∀ x ∈ l, x.l.length ≤ 140737488355328
  len : l.length ≤ 5864062014805
theorem Bss.fr {w w' : World} {Z S : Nat → Prop} {A : Option Addr} {l : List BV} (h : Bss w Z A l) (k : Fr S w w') (hs : ∀ b, b < w.heap.size → Z b → ¬ S b) : Bss w' Z A l :=
  ⟨h.rd.fr k hs, fun o ho => (h.ok o ho).fr k hs, h.lens, h.len⟩
theorem Bss.below {w w' : World} {Z : Nat → Prop} {A : Option Addr} {l : List BV} (h : Bss w Z A l) (k : Below w.heap.size w w') : Bss w' Z A l := h.fr (Fr.of_below k (fun _ => False)) (fun _ _ _ h => h)
theorem flat_dropS : ∀ (S : List (List UInt8 × Bool × Bool)) (n : Nat), flatP (dropS S n) = (flatP S).drop n
  | [], n => by simp [dropS, flatP]
  | (l, b, d) :: xs, n => by
    have ih := flat_dropS xs (n - l.length)
    rw [dropS]
    split
    · rename_i h; subst h; simp
    · split
      · unfold flatP
        rw [List.flatMap_cons, List.flatMap_cons, List.drop_append_of_le_length (by show n ≤ l.length; omega)]
      · rw [ih]
        unfold flatP
        have h0 : List.drop n (l, b, d).1 = [] := List.drop_of_length_le (show l.length ≤ n by omega)
        rw [List.flatMap_cons, List.drop_append, h0, List.nil_append]
end Go.Proofs.Yticfjnjeoikalaa
