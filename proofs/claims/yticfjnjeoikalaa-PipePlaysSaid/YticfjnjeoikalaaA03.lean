/- pipe.Flip: a parcel's bits are turned. -/
import Derived.Test.YticfjnjeoikalaaA02
import Derived.Deep.Cut
import Derived.Lib.SliceRun

namespace Go.Proofs.Yticfjnjeoikalaa
open Go.RowKit

set_option maxRecDepth 100000 in
set_option maxHeartbeats 400000 in
theorem flip1_any (base xb c : Nat) (A : Option Addr) (l : List UInt8) (k : Nat) (w : World) (hx : Blk w xb 31 #[.slice A l.length c]) (ho : OwB w base (.slice A l.length c) l) (hk : k < 8 * l.length) (hl : l.length ≤ 140737488355328) :
    Calls Try.prog 30 #[.int .i64 (k : Int), .pointer (some ⟨xb, 0, none⟩)] w fun e w' => e = .returned (.tuple #[]) ∧ OwB w' base (.slice A (turnB l k).length c) (turnB l k) ∧ Fr (fun g => ablk A = some g) w w' := by
  obtain ⟨g, rfl, hbg, hgl⟩ := ho.block (by omega)
  have hki : k / 8 < l.length := by omega
  have hcell := ho.cellAt hki
  have hfz := ho.frozenAt (k / 8)
  have hput := ho.put (k / 8) (UInt8.ofNat ((l.getD (k / 8) 0).toNat ^^^ 2 ^ (k % 8)))
  have hget : l.getD (k / 8) 0 = l[k / 8] := by rw [List.getD_eq_getElem?_getD, List.getElem?_eq_getElem hki]; rfl
  have hT : Hid (turnB l k = l.set (k / 8) (UInt8.ofNat (l[k / 8].toNat ^^^ 2 ^ (k % 8)))) := by show _ = _; unfold turnB; rw [hget]
  rw [hget] at hput
  have hpw : 2 ^ (k % 8) < 256 := by
    have : 2 ^ (k % 8) ≤ 2 ^ 7 := Nat.pow_le_pow_right (by omega) (by omega)
    omega
  have hxor := xor_u8 l[k / 8] (2 ^ (k % 8)) hpw
  generalize l[k / 8] = x at *
  unfold bv at hcell hput
  obtain ⟨q, hq⟩ : ∃ q : Nat, q = k / 8 := ⟨_, rfl⟩
  obtain ⟨r, hr⟩ : ∃ r : Nat, r = k % 8 := ⟨_, rfl⟩
  have hw1 : IntKind.i64.wrap ((k : Int) / 8) = (q : Int) := by rw [IntKind.wrap_i64]; omega
  have hw2 : IntKind.i64.wrap ((k : Int) % 8) = (r : Int) := by rw [IntKind.wrap_i64]; omega
  have hw3 : IntKind.i64.wrap ((k : Int).tmod 8) = (r : Int) := by rw [IntKind.wrap_i64, Int.tmod_eq_emod_of_nonneg (by omega)]; omega
  have hw4 : (k : Int).tmod 8 = (r : Int) := by rw [Int.tmod_eq_emod_of_nonneg (by omega)]; omega
  have hr8 : r < 8 := by omega
  rw [← hq] at hki hcell hfz hput hT hget
  rw [← hr] at hput hT hpw hxor
  obtain ⟨m, hm⟩ : ∃ m : Nat, m = 2 ^ r := ⟨_, rfl⟩
  rw [← hm] at hput hT hpw hxor
  have hsh : IntKind.u8.wrap ((2 : Int) ^ r) = (m : Int) := by
    have e : ((2 : Int) ^ r) = (m : Int) := by rw [hm]; simp
    rw [e]
    simp [IntKind.wrap, IntKind.bits, IntKind.signed]
    omega
  have hsh1 : IntKind.u8.wrap (1 * (2 : Int) ^ r) = (m : Int) := by rw [Int.one_mul]; exact hsh
  have hx3 : x.toNat ^^^ m % 256 = (UInt8.ofNat (x.toNat ^^^ m)).toNat := by
    rw [Nat.mod_eq_of_lt hpw, UInt8.toNat_ofNat', Nat.mod_eq_of_lt]
    exact Nat.xor_lt_two_pow (n := 8) x.toNat_lt hpw
  have hx4 : x.toNat ^^^ m = (UInt8.ofNat (x.toNat ^^^ m)).toNat := by
    rw [UInt8.toNat_ofNat', Nat.mod_eq_of_lt]
    exact Nat.xor_lt_two_pow (n := 8) x.toNat_lt hpw
  obtain ⟨vx, hvx⟩ : ∃ vx, vx = UInt8.ofNat (x.toNat ^^^ m) := ⟨_, rfl⟩
  rw [← hvx] at hx3 hx4 hT hxor hput
  clear hq hr hm hput hvx
  go_enter Try.func30, Try.ntmps30
  go_wp2_with fail
  refine wp_region_b 10 (by kernel_rfl) (by kernel_rfl) ?_
  simp only [List.take_succ_cons, List.take_zero, List.drop_succ_cons, List.drop_zero]
  refine lb_val (by kernel_rfl) ⟨_, (by (intro w' hC; (have q := hx.below hC; have q0 := q.cell 0; simp at q0); clear hC; (try go_simp); (try with_reducible rfl); done)), _, (by (simp only [Act.put, List.setIfInBounds_toArray, List.set_cons_zero, List.set_cons_succ]; rfl)), ?_⟩
  refine lb_move _ (by kernel_rfl) rfl ⟨_, (by ((try simp [go_sem]); (try rfl); done)), _, (by (simp only [Act.put, List.setIfInBounds_toArray, List.set_cons_zero, List.set_cons_succ]; rfl)), ?_⟩
  refine lb_val (by kernel_rfl) ⟨_, (by (intro w' hC; clear hC; (try go_simp); (try with_reducible rfl); done)), _, (by (simp only [Act.put, List.setIfInBounds_toArray, List.set_cons_zero, List.set_cons_succ]; rfl)), ?_⟩
  refine lb_val (by kernel_rfl) ⟨_, (by (intro w' hC; clear hC; (try go_simp); (try with_reducible rfl); done)), _, (by (simp only [Act.put, List.setIfInBounds_toArray, List.set_cons_zero, List.set_cons_succ]; rfl)), ?_⟩
  refine lb_val (by kernel_rfl) ⟨_, (by (intro w' hC; have q1 := cellAt hC hgl hcell; clear hC; (try go_simp); (try with_reducible rfl); done)), _, (by (simp only [Act.put, List.setIfInBounds_toArray, List.set_cons_zero, List.set_cons_succ]; rfl)), ?_⟩
  refine lb_move _ (by kernel_rfl) rfl ⟨_, (by ((try simp [go_sem]); (try rfl); done)), _, (by (simp only [Act.put, List.setIfInBounds_toArray, List.set_cons_zero, List.set_cons_succ]; rfl)), ?_⟩
  refine lb_val (by kernel_rfl) ⟨_, (by (intro w' hC; clear hC; (try go_simp); (try with_reducible rfl); done)), _, (by (simp only [Act.put, List.setIfInBounds_toArray, List.set_cons_zero, List.set_cons_succ]; rfl)), ?_⟩
  refine lb_val (by kernel_rfl) ⟨_, (by (intro w' hC; clear hC; (try go_simp); (try with_reducible rfl); done)), _, (by (simp only [Act.put, List.setIfInBounds_toArray, List.set_cons_zero, List.set_cons_succ]; rfl)), ?_⟩
  refine lb_val (by kernel_rfl) ⟨_, (by (intro w' hC; clear hC; (try go_simp); (try with_reducible rfl); done)), _, (by (simp only [Act.put, List.setIfInBounds_toArray, List.set_cons_zero, List.set_cons_succ]; rfl)), ?_⟩
  refine lb_val (by kernel_rfl) ⟨_, (by (intro w' hC; clear hC; (try go_simp); (try with_reducible rfl); done)), _, (by (simp only [Act.put, List.setIfInBounds_toArray, List.set_cons_zero, List.set_cons_succ]; rfl)), ?_⟩
  refine .nil ?_
  intro w2 hb2
  have ho2 := ho.below hb2
  have hc2 : w2.cell? ⟨g, q, none⟩ = some (.int .u8 (x.toNat : Int)) := by rw [hb2.cell hgl]; exact hcell
  have hz2 := ho2.frozenAt q
  have hput := ho2.put q vx
  rw [← hT.out] at hput
  unfold bv at hput
  have fF := ((Fr.refl (fun h => ablk (some (⟨g, 0, none⟩ : Addr)) = some h) w).then_below hb2).setAt g q rfl (.int .u8 (vx.toNat : Int))
  have HP := Lib.hid hput
  have HF := Lib.hid fF
  clear hcell hfz hput fF ho ho2 hxor
  go_wp2_with fail
  go_end0
  exact ⟨rfl, HP.out, HF.out⟩
theorem par_set (ls : List PV) (k : Nat) (p : PV) (hk : k < ls.length) : ((((ls.flatMap PV.cells).set (k * 3) (.slice p.x.A p.x.l.length p.x.c)).set (k * 3 + 1) (.bool p.b)).set (k * 3 + 2) (.bool p.d)) = (ls.set k p).flatMap PV.cells := by
  induction ls generalizing k with
  | nil => simp at hk
  | cons q ls ih =>
    cases k with
    | zero => simp [PV.cells]
    | succ k =>
      have := ih k (by simpa using hk)
      rw [List.flatMap_cons, List.set_cons_succ, List.flatMap_cons, ← this]
      simp [PV.cells, Nat.add_mul]
theorem par_dam {w : World} {base g off c n : Nat} {ls : List PV} {k : Nat} (h : Row w base 56 3 (some ⟨g, off, none⟩) n c (ls.flatMap PV.cells)) (hk : k < ls.length) : Row (w.setCell ⟨g, off + k * 3 + 2, none⟩ (.bool true)) base 56 3 (some ⟨g, off, none⟩) n c ((ls.set k { ls[k] with d := true }).flatMap PV.cells) := by
  have h1 := h.put (k * 3 + 2) (.bool true)
  rw [← Nat.add_assoc] at h1
  rw [← par_set ls k _ hk]
  have e0 : (ls.flatMap PV.cells)[k * 3]? = some (.slice ls[k].x.A ls[k].x.l.length ls[k].x.c) := flat_get (k := 3) (fun _ => rfl) ls k 0 hk (by omega)
  have e1 : (ls.flatMap PV.cells)[k * 3 + 1]? = some (.bool ls[k].b) := flat_get (k := 3) (fun _ => rfl) ls k 1 hk (by omega)
  have s0 : (ls.flatMap PV.cells).set (k * 3) (.slice ls[k].x.A ls[k].x.l.length ls[k].x.c) = ls.flatMap PV.cells := by
    obtain ⟨hl, he⟩ := List.getElem?_eq_some_iff.1 e0
    rw [← he, List.set_getElem_self]
  have s1 : (ls.flatMap PV.cells).set (k * 3 + 1) (.bool ls[k].b) = ls.flatMap PV.cells := by
    obtain ⟨hl, he⟩ := List.getElem?_eq_some_iff.1 e1
    rw [← he, List.set_getElem_self]
  show Row _ base _ 3 _ n c ((((ls.flatMap PV.cells).set (k * 3) (.slice ls[k].x.A ls[k].x.l.length ls[k].x.c)).set (k * 3 + 1) (.bool ls[k].b)).set (k * 3 + 2) (.bool true))
  rw [s0, s1]
  exact h1
theorem par_x {w : World} {base g off c n : Nat} {ls : List PV} {k : Nat} (h : Row w base 56 3 (some ⟨g, off, none⟩) n c (ls.flatMap PV.cells)) (hk : k < ls.length) (x : BV) : Row (w.setCell ⟨g, off + k * 3, none⟩ (.slice x.A x.l.length x.c)) base 56 3 (some ⟨g, off, none⟩) n c ((ls.set k { ls[k] with x := x }).flatMap PV.cells) := by
  have h1 := h.put (k * 3) (.slice x.A x.l.length x.c)
  rw [← par_set ls k _ hk]
  have e1 : ((ls.flatMap PV.cells).set (k * 3) (.slice x.A x.l.length x.c))[k * 3 + 1]? = some (.bool ls[k].b) := by
    rw [List.getElem?_set_ne (by omega)]; exact flat_get (k := 3) (fun _ => rfl) ls k 1 hk (by omega)
  have e2 : ((ls.flatMap PV.cells).set (k * 3) (.slice x.A x.l.length x.c))[k * 3 + 2]? = some (.bool ls[k].d) := by
    rw [List.getElem?_set_ne (by omega)]; exact flat_get (k := 3) (fun _ => rfl) ls k 2 hk (by omega)
  show Row _ base _ 3 _ n c ((((ls.flatMap PV.cells).set (k * 3) (.slice x.A x.l.length x.c)).set (k * 3 + 1) (.bool ls[k].b)).set (k * 3 + 2) (.bool ls[k].d))
  have s1 : ((ls.flatMap PV.cells).set (k * 3) (.slice x.A x.l.length x.c)).set (k * 3 + 1) (.bool ls[k].b) = (ls.flatMap PV.cells).set (k * 3) (.slice x.A x.l.length x.c) := by
    obtain ⟨hl, he⟩ := List.getElem?_eq_some_iff.1 e1
    rw [← he, List.set_getElem_self]
  have s2 : ((ls.flatMap PV.cells).set (k * 3) (.slice x.A x.l.length x.c)).set (k * 3 + 2) (.bool ls[k].d) = (ls.flatMap PV.cells).set (k * 3) (.slice x.A x.l.length x.c) := by
    obtain ⟨hl, he⟩ := List.getElem?_eq_some_iff.1 e2
    rw [← he, List.set_getElem_self]
  rw [s1, s2]
  exact h1
theorem par_cell {w : World} {base g off c n : Nat} {ls : List PV} {k : Nat} (h : Row w base 56 3 (some ⟨g, off, none⟩) n c (ls.flatMap PV.cells)) (hk : k < ls.length) : w.cell? ⟨g, off + k * 3, none⟩ = some (.slice ls[k].x.A ls[k].x.l.length ls[k].x.c) ∧ w.cell? ⟨g, off + k * 3 + 1, none⟩ = some (.bool ls[k].b) ∧ w.cell? ⟨g, off + k * 3 + 2, none⟩ = some (.bool ls[k].d) := by
  have hg : ∀ j, j < 3 → (ls.flatMap PV.cells)[k * 3 + j]? = (PV.cells ls[k])[j]? := fun j hj => flat_get (k := 3) (fun _ => rfl) ls k j hk hj
  refine ⟨h.cell (hg 0 (by omega)), ?_, ?_⟩
  · rw [Nat.add_assoc]; exact h.cell (hg 1 (by omega))
  · rw [Nat.add_assoc]; exact h.cell (hg 2 (by omega))
theorem own_low {w : World} {base n : Nat} {A : Option Addr} {c : Nat} {l : List UInt8} (h : OwB w base (.slice A n c) l) : ∀ b, ablk A = some b → base ≤ b := by
  obtain ⟨A', c', e, _, _, h3, _⟩ := own_form h
  injection e with e1 e2 e3
  subst e1
  exact fun b hb => (h3 b hb).1
theorem own_blk {w : World} {base n : Nat} {A : Option Addr} {c : Nat} {l : List UInt8} (h : OwB w base (.slice A n c) l) : ∀ b, (Value.slice A n c).ownBlock = some b → base ≤ b := fun b hb => (h.lt b hb).1
theorem flipS_out {S : List (List UInt8 × Bool × Bool)} {i bit : Int} {mask : Nat} (h : i < 0 ∨ (S.length : Int) ≤ i) : flipS S i bit mask = (S, false) := by
  unfold flipS
  by_cases h0 : i < 0
  · rw [if_pos h0]
  · rw [if_neg h0, List.getElem?_eq_none (by omega)]
theorem flipS_no {S : List (List UInt8 × Bool × Bool)} {k : Nat} {p : List UInt8 × Bool × Bool} {bit : Int} {mask : Nat} (hp : S[k]? = some p) (h : p.2.1 = true ∨ p.2.2 = true ∨ bit < 0 ∨ 8 * (p.1.length : Int) ≤ bit) : flipS S (k : Int) bit mask = (S, false) := by
  unfold flipS
  rw [if_neg (by omega), Int.toNat_natCast, hp]
  exact if_pos h
theorem flipS_yes {S : List (List UInt8 × Bool × Bool)} {k : Nat} {l : List UInt8} {bit : Nat} {mask : Nat} (hp : S[k]? = some (l, false, false)) (h : bit < 8 * l.length) : flipS S (k : Int) (bit : Int) mask = (S.set k ((flipB l bit mask).1, false, (flipB l bit mask).2), (flipB l bit mask).2) := by
  unfold flipS
  rw [if_neg (by omega), Int.toNat_natCast, hp]
  show (if _ then _ else _) = _
  rw [if_neg (by simp; omega), Int.toNat_natCast]

set_option maxRecDepth 100000 in
set_option maxHeartbeats 1000000 in
theorem pipeFlip_no (base pb : Nat) (X : Nat → Prop) (A : Option Addr) (c : Nat) (ls : List PV) (cl : Bool) (w : World) (h : PipeAt w base pb X A c ls cl) (i bit : Int) (mask : Nat) (hlen : ∀ p ∈ ls, p.x.l.length ≤ 140737488355328)
    (hn : ¬ (∃ k : Nat, ∃ hk : k < ls.length, i = (k : Int) ∧ ls[k].b = false ∧ ls[k].d = false ∧ 0 ≤ bit ∧ bit < 8 * (ls[k].x.l.length : Int))) :
    Calls Try.prog 19 #[.pointer (some ⟨pb, 0, none⟩), .int .i64 i, .int .i64 bit, .int .u32 (mask : Int)] w fun e w' => e = .returned (.bool (flipS (ls.map PV.s) i bit mask).2) ∧ PipeTo w base pb X A (flipS (ls.map PV.s) i bit mask).1 cl w' := by
  by_cases hi : i < 0 ∨ (ls.length : Int) ≤ i
  · rw [flipS_out (by simpa using hi)]
    have HAT := Lib.hid (pipeAt_out base pb X A c ls cl w h i hi)
    go_enter Try.func19, Try.ntmps19
    go_wp2_with fail
    refine HAT.out.mono ?_
    rintro e w1 ⟨rfl, rfl⟩
    go_wp2_with fail
    go_ret
    exact ⟨rfl, h.to⟩
  · obtain ⟨k, rfl⟩ : ∃ k : Nat, i = k := ⟨i.toNat, by omega⟩
    have hk : k < ls.length := by omega
    have hp : (ls.map PV.s)[k]? = some ls[k].s := by rw [List.getElem?_map, List.getElem?_eq_getElem hk]; rfl
    obtain ⟨g, off, rfl, hgb, hgl, hgne, q0, q1, q2⟩ := h.par hk
    have hat := pipeAt_in base pb X g off c ls cl w h k hk
    have hll := hlen _ (List.getElem_mem hk)
    have hn2 : ls[k].b = true ∨ ls[k].d = true ∨ bit < 0 ∨ 8 * (ls[k].x.l.length : Int) ≤ bit := by
      rcases hb : ls[k].b with _ | _
      · rcases hd : ls[k].d with _ | _
        · by_cases h1 : bit < 0
          · exact .inr (.inr (.inl h1))
          · by_cases h2 : 8 * (ls[k].x.l.length : Int) ≤ bit
            · exact .inr (.inr (.inr h2))
            · exact absurd ⟨k, hk, rfl, hb, hd, by omega, by omega⟩ hn
        · exact .inr (.inl rfl)
      · exact .inl rfl
    rw [flipS_no hp hn2]
    clear hn hp
    generalize ls[k] = p at *
    obtain ⟨⟨pA, pc, pl⟩, pb', pd⟩ := p
    dsimp only at *
    rcases pb' with _ | _
    · have HAT := Lib.hid hat
      clear hat
      rcases pd with _ | _
      · by_cases h1 : bit < 0
        · clear hn2
          go_enter Try.func19, Try.ntmps19
          go_wp2_with fail
          refine HAT.out.mono ?_
          rintro e w1 ⟨rfl, rfl⟩
          go_wp2_with fail
          go_ret
          exact ⟨rfl, h.to⟩
        · have h2 : 8 * (pl.length : Int) ≤ bit := by simpa [h1] using hn2
          have h3 : (0 : Int) ≤ bit := by omega
          have hw8 : IntKind.i64.wrap (8 * (pl.length : Int)) = 8 * (pl.length : Int) := by rw [IntKind.wrap_i64]; omega
          clear hn2
          go_enter Try.func19, Try.ntmps19
          go_wp2_with fail
          refine HAT.out.mono ?_
          rintro e w1 ⟨rfl, rfl⟩
          go_wp2_with fail
          go_ret
          exact ⟨rfl, h.to⟩
      · clear hn2
        go_enter Try.func19, Try.ntmps19
        go_wp2_with fail
        refine HAT.out.mono ?_
        rintro e w1 ⟨rfl, rfl⟩
        go_wp2_with fail
        go_ret
        exact ⟨rfl, h.to⟩
    · have HAT := Lib.hid hat
      clear hat hn2
      go_enter Try.func19, Try.ntmps19
      go_wp2_with fail
      refine HAT.out.mono ?_
      rintro e w1 ⟨rfl, rfl⟩
      go_wp2_with fail
      go_ret
      exact ⟨rfl, h.to⟩
set_option maxRecDepth 100000 in
set_option maxHeartbeats 2000000 in
theorem pipeFlip_yes (base pb : Nat) (X : Nat → Prop) (g off c : Nat) (ls : List PV) (cl : Bool) (w : World) (h : PipeAt w base pb X (some ⟨g, off, none⟩) c ls cl) (k bit : Nat) (mask : Nat) (hlen : ∀ p ∈ ls, p.x.l.length ≤ 140737488355328) (hm : mask < 4294967296) (hX : ∀ b, X b → b < w.heap.size) (hbase : base ≤ w.heap.size)
    (hk : k < ls.length) (hb0 : ls[k].b = false) (hd0 : ls[k].d = false) (hbit : bit < 8 * ls[k].x.l.length) :
    Calls Try.prog 19 #[.pointer (some ⟨pb, 0, none⟩), .int .i64 (k : Int), .int .i64 (bit : Int), .int .u32 (mask : Int)] w fun e w' => e = .returned (.bool (flipB ls[k].x.l bit mask).2) ∧ PipeTo w base pb X (some ⟨g, off, none⟩) ((ls.map PV.s).set k ((flipB ls[k].x.l bit mask).1, false, (flipB ls[k].x.l bit mask).2)) cl w' := by
  have hat := pipeAt_in base pb X g off c ls cl w h k hk
  obtain ⟨g', off', e1, hgb, hgl, hgne, q0, q1, q2⟩ := h.par hk
  injection e1 with e1
  injection e1 with e1 e2
  subst e1 e2
  have hll := hlen _ (List.getElem_mem hk)
  have hok := h.ok _ (List.getElem_mem hk)
  have HH := Lib.hid h
  obtain ⟨p, hp⟩ : ∃ p, p = ls[k] := ⟨_, rfl⟩
  have HP := Lib.hid hp
  rw [← hp] at q0 q1 q2 hat hb0 hd0 hll hok hbit ⊢
  obtain ⟨⟨pA, pc, l⟩, pb', pd⟩ := p
  dsimp only at *
  subst hb0 hd0
  have HAT := Lib.hid hat
  have HOK := Lib.hid hok
  have hw8 : IntKind.i64.wrap (8 * (l.length : Int)) = 8 * (l.length : Int) := by rw [IntKind.wrap_i64]; omega
  have hbi : ¬ 8 * (l.length : Int) ≤ (bit : Int) := by omega
  obtain ⟨F, hF⟩ : ∃ F, F = flipB l bit mask := ⟨_, rfl⟩
  have HF := Lib.hid hF
  rw [← hF]
  clear h hat hok hp hF
  go_enter Try.func19, Try.ntmps19
  go_wp2_with fail
  refine HAT.out.mono ?_
  rintro e w1 ⟨rfl, rfl⟩
  clear HAT
  go_wp2_with fail
  refine (clone_any pA pc l _ _ HOK.out.1 hll).mono ?_
  rintro e w1 ⟨A1, c1, l1, rfl, hl1, ho1, hb1⟩
  obtain rfl : l1 = l := hl1.out
  have hs1 := hb1.size
  have hxl : A1 = A1 := rfl
  have c25 : 0 < l1.length := by omega
  have hwm : IntKind.i64.wrap (8 * (l1.length : Int) - (bit : Int)) = 8 * (l1.length : Int) - (bit : Int) := by rw [IntKind.wrap_i64]; omega
  obtain ⟨N, hN⟩ : ∃ N : Nat, N = min 32 (8 * l1.length - bit) := ⟨_, rfl⟩
  have hmin : min (32 : Int) (8 * (l1.length : Int) - (bit : Int)) = (N : Int) := by omega
  have hNb : bit + N ≤ 8 * l1.length := by omega
  have HN := Lib.hid hN
  have bX := Blk.new w1 31 #[.slice A1 l1.length c1]
  have ba : Below w1.heap.size w1 (w1.alloc (.cells #[.slice A1 l1.length c1] 31)) := (Below.refl _ _).alloc (Nat.le_refl _) _
  have hw2 := hb1.trans (ba.mono hb1.size)
  have HO2 := Lib.hid (ho1.below ba)
  have HH2 := Lib.hid (HH.out.below hw2)
  clear hN ho1 ba
  go_wp2_with fail
  obtain ⟨xb, hxb⟩ : ∃ xb, xb = w1.heap.size := ⟨_, rfl⟩
  have hxw : w.heap.size ≤ xb := by omega
  rw [← hxb] at bX ⊢
  clear hxb
  have BX := Lib.hid bX
  generalize w1.alloc (.cells #[.slice A1 l1.length c1] 31) = w2 at *
  clear bX
  go_loopw [50] (fun iv wr => ∃ (n : Nat) (B : List UInt8) (D : Bool), n ≤ N ∧ iv = .int .i64 (n : Int) ∧ Hid ((B, D) = flipI l1 bit mask n) ∧ B.length = l1.length ∧ Blk wr xb 31 #[.slice A1 B.length c1] ∧ OwB wr w.heap.size (.slice A1 B.length c1) B ∧ Row wr base 56 3 (some ⟨g, off, none⟩) ls.length c ((ls.set k ⟨⟨pA, pc, l1⟩, false, D⟩).flatMap PV.cells) ∧ Fr (fun b => b = g) w wr) (fun iv _ => N - (intOf iv).toNat)
  case atStart => exact ⟨0, l1, false, Nat.zero_le _, rfl, Lib.hid rfl, rfl, BX.out, HO2.out, by rw [HP.out, List.set_getElem_self]; exact HH2.out.row, Fr.of_below hw2 _⟩
  case round =>
    obtain ⟨n, B, D, hn, rfl, hBD, hBl, hbx, hob, hrow, hfr⟩ := hrel
    by_cases hlt : n < N
    · obtain ⟨mn, hmn⟩ : ∃ mn, mn = mask / 2 ^ n := ⟨_, rfl⟩
      have hsr : (mask : Int) / 2 ^ n = (mn : Int) := by rw [hmn]; simp
      have hmnl : mn < 4294967296 := by rw [hmn]; exact Nat.lt_of_le_of_lt (Nat.div_le_self _ _) hm
      have hand : bits .and .u32 (mn : Int) 1 = ((mn % 2 : Nat) : Int) := by
        have := u32_and_nat mn 1 hmnl (by decide)
        rw [Nat.and_one_is_mod] at this
        exact this
      obtain ⟨kb, hkb⟩ : ∃ kb, kb = bit + n := ⟨_, rfl⟩
      have hwa : IntKind.i64.wrap ((bit : Int) + (n : Int)) = (kb : Int) := by rw [IntKind.wrap_i64]; omega
      have hkb8 : kb < 8 * B.length := by omega
      have HMN := Lib.hid hmn
      have HKB := Lib.hid hkb
      clear hmn hkb
      by_cases h1 : mn % 2 = 1
      · have HST : Hid (flipI l1 bit mask (n + 1) = (turnB B kb, true)) := Lib.hid (by
          rw [flipI_yes (by rw [← HMN.out]; exact h1) (by have := HKB.out; omega), ← hBD.out, HKB.out])
        have hob2 := flip1_any w.heap.size xb c1 A1 B kb wr hbx hob hkb8 (by omega)
        have HF1 := Lib.hid hob2
        have hlow := own_low hob
        have hxA := (Row.of_own hob).ne_blk hbx (by decide)
        have HB := Lib.hid hbx
        have HR := Lib.hid hrow
        clear hob2 hob hbx hrow
        go_wp2_with fail
        refine HF1.out.mono ?_
        rintro e w3 ⟨rfl, ho3, hf3⟩
        have hrow3 := HR.out.fr hf3 (fun b hb e => by
          have h1 := hlow b e
          have h2 : g = b := by simpa [ablk] using hb
          omega)
        have hbx3 := HB.out.fr hf3 hxA
        have hkl : k < (ls.set k ⟨⟨pA, pc, l1⟩, false, D⟩).length := by rw [List.length_set]; exact hk
        obtain ⟨y0, y1, y2⟩ := par_cell hrow3 hkl
        have fz := hrow3.frozen (off + k * 3 + 2)
        have hrow4 := par_dam hrow3 hkl
        rw [List.set_set, List.getElem_set_self] at hrow4
        have kf : Fr (fun b => b = g) w3 (w3.setCell ⟨g, off + k * 3 + 2, none⟩ (.bool true)) := (Fr.refl (fun b => b = g) w3).setAt g _ rfl _
        have HB4 := Lib.hid (hbx3.fr kf (by omega))
        have HO4 := Lib.hid (ho3.fr kf (fun b hb e => by have := own_blk ho3 b hb; omega))
        have HR4 := Lib.hid hrow4
        have hfr4 := (hfr.trans hf3 (fun x hx e => by have := hlow x e; omega)).trans kf (fun _ _ e => e)
        rw [← turnB_len B kb] at HB4
        clear hrow3 hbx3 hrow4 ho3 hf3 kf hfr
        go_wp2_with fail
        go_roundw
        case rel => exact ⟨n + 1, turnB B kb, true, hlt, by go_num, Lib.hid HST.out.symm, by rw [turnB_len]; exact hBl, HB4.out, HO4.out, HR4.out, hfr4⟩
        case measure => simp [intOf]; omega
      · have HST : Hid (flipI l1 bit mask (n + 1) = (B, D)) := Lib.hid (by
          rw [flipI_no (by rw [← HMN.out]; exact fun e => h1 e.1), ← hBD.out])
        have HB := Lib.hid hbx
        have HR := Lib.hid hrow
        have HO := Lib.hid hob
        have h10 : mn % 2 = 0 := by omega
        clear hob hbx hrow
        go_wp2_with fail
        go_roundw
        case rel => exact ⟨n + 1, B, D, hlt, by go_num, Lib.hid HST.out.symm, hBl, HB.out, HO.out, HR.out, hfr⟩
        case measure => simp [intOf]; omega
    · have hnN : n = N := by omega
      have hFE : F = (B, D) := by
        rw [HF.out, ← flip_min l1 bit mask hbit, ← HN.out, ← hnN, ← hBD.out]
      have hlow := own_blk hob
      have hlowA := own_low hob
      have hkl : k < (ls.set k ⟨⟨pA, pc, l1⟩, false, D⟩).length := by rw [List.length_set]; exact hk
      obtain ⟨y0, y1, y2⟩ := par_cell hrow hkl
      rw [List.getElem_set_self] at y0 y1 y2
      dsimp only at y0 y1 y2
      have fz := hrow.frozen (off + k * 3)
      have cx := hbx.cell 0
      simp only [List.getElem?_toArray, List.getElem?_cons_zero] at cx
      have hrow4 := par_x hrow hkl ⟨A1, c1, B⟩
      rw [List.set_set, List.getElem_set_self] at hrow4
      have kf : Fr (fun b => b = g) wr (wr.setCell ⟨g, off + k * 3, none⟩ (.slice A1 B.length c1)) := (Fr.refl (fun b => b = g) wr).setAt g _ rfl _
      obtain ⟨z0, z1, z2⟩ := par_cell hrow4 (by rw [List.length_set]; exact hk)
      rw [List.getElem_set_self] at z0 z1 z2
      dsimp only at z0 z1 z2 hrow4
      have HO4 := Lib.hid (hob.fr kf (fun b hb e => by have := hlow b hb; omega))
      have hfr4 := hfr.trans kf (fun _ _ e => e)
      have HR4 := Lib.hid hrow4
      have hDE : F.2 = D := by rw [hFE]
      have hBE : F.1 = B := by rw [hFE]
      have HDE := Lib.hid hDE
      have HBE := Lib.hid hBE
      have hB0 : 0 < B.length := by omega
      have HB0 := Lib.hid hB0
      clear hDE hBE hFE hrow hbx hrow4 hob kf hBD hBl hB0
      go_upto_region 14 with (fail)
      clear y0 y1 y2 fz cx
      generalize wr.setCell ⟨g, off + k * 3, none⟩ (.slice A1 B.length c1) = w5 at *
      go_wp2_with fail
      go_ret
      refine ⟨by rw [HDE.out]; rfl, ⟨some ⟨g, off, none⟩, c, ls.set k ⟨⟨A1, c1, B⟩, false, D⟩, ⟨?_, ?_, ?_, ?_⟩, ?_, fun g' hg' => .inl hg'⟩, hfr4.mono (fun x _ e => .inr (by rw [e]; rfl))⟩
      · have := HH.out.blk.fr hfr4 (fun e => hgne e.symm)
        rw [List.length_set]; exact this
      · unfold Pars
        rw [List.length_set]; exact HR4.out
      · intro p hp
        rcases List.mem_or_eq_of_mem_set hp with hp | rfl
        · exact ((HH.out.ok p hp).fr hfr4 (fun b _ hz e => hz.2.1 (by rw [e]; rfl)))
        · obtain ⟨A', c', e, h1, h2, h3⟩ := HO4.out.form
          injection e with e1 e2 e3
          subst e1 e3
          refine ⟨HO4.out.rd.mono (fun b _ hb => ?_), h1, h2⟩
          have h5 := hlowA b hb
          have h6 := HH.out.blk.lt
          exact ⟨by omega, fun e => (by have h7 : g = b := (by simpa [ablk] using e); omega), fun e => by have := hX b e; omega⟩
      · intro p hp
        rcases List.mem_or_eq_of_mem_set hp with hp | rfl
        · exact HH.out.full p hp
        · exact HB0.out
      · show _ = _
        rw [List.map_set, HDE.out, HBE.out]; rfl

end Go.Proofs.Yticfjnjeoikalaa

/- pipe: slices.Clone of parcels; Open, Clone. -/
namespace Go.Proofs.Yticfjnjeoikalaa
open Go.RowKit

set_option maxRecDepth 100000 in
set_option maxHeartbeats 1000000 in
theorem cloneP_any (A : Option Addr) (c : Nat) (l : List PV) (Z : Nat → Prop) (w : World) (h : Rd w Z 3 A l.length (l.flatMap PV.cells)) (hlen : l.length ≤ 1000000) :
    Calls Try.prog 31 #[.slice A l.length c] w fun e w' => ∃ (A' : Option Addr) (c' : Nat), e = .returned (.slice A' l.length c') ∧ Row w' w.heap.size 56 3 A' l.length c' (l.flatMap PV.cells) ∧ Below w.heap.size w w' := by
  obtain ⟨i0, hi0, hz0, hz1, hz2⟩ := info_parts par_info
  rcases A with _ | a
  · have hl : l = [] := by
      rcases l with _ | ⟨x, l⟩
      · rfl
      · obtain ⟨b, off, e, _⟩ := h.2 (by simp); cases e
    subst hl
    have k1 : ∀ w, (binOp .eql 41 (.slice none 0 c) (.slice none 0 0)).run Try.prog w = .ok (.bool true) w := fun w => Lib.run_eql_slice_nil (P := Try.prog) w 41 56 none 0 c 0 0 Try.underlying41
    show Calls Try.prog 31 #[.slice none 0 c] w _
    go_enter Try.func31, Try.ntmps31
    go_wp2_with fail
    go_ret
    exact ⟨none, 0, rfl, Row.none_ _ _ _ _, Below.refl _ _⟩
  · have k1 := fun w => Lib.run_eql_slice_nil (P := Try.prog) w 41 56 (some a) l.length c 0 0 Try.underlying41
    have hch := par_one l
    generalize hn : l.length = n at *
    generalize l.flatMap PV.cells = xs at *
    clear hn
    have hr := h.alloc (.cells #[] 56)
    have hrow : Row (w.alloc (.cells #[] 56)) w.heap.size 56 3 (some ⟨w.heap.size, 0, none⟩) 0 0 [] :=
      ⟨by simp, Nat.le_refl _, by simp [maxLen], fun h => (by cases h), fun a ha => by
        injection ha with ha
        subst ha
        exact ⟨w.heap.size, 0, _, rfl, Nat.le_refl _, Blk.new w _ _, by simp, by simp⟩⟩
    have HR := Lib.hid hr
    have HW := Lib.hid hrow
    have HC := Lib.hid hch
    clear hr hrow hch h
    go_enter Try.func31, Try.ntmps31
    go_wp2_with (at_builtin; refine wpList_append_row _ rfl (.tmp 5) (.tmp 6) 41 rfl w.heap.size 56 i0 _ 3 32 Try.underlying41 hi0 hz0 hz1 hz2 rfl (by omega) rfl HW.out rfl HR.out HC.out (by simp only [maxLen]; omega) (by omega) (by simp) ?_; intro A' c' w1 h1 h2 h3; rw [List.nil_append, Nat.zero_add] at h1)
    have hb : Below w.heap.size w w1 := by
      have hf : Fr (fun k => k = w.heap.size) (w.alloc (.cells #[] 56)) w1 := Fr.of_grown h2 (fun k hk e => by simp [ablk] at e; omega)
      exact ((Below.refl _ _).alloc (Nat.le_refl _) _).trans (hf.below (by simp) (fun k hk e => by omega))
    go_ret
    exact ⟨A', c', by simp, h1, hb⟩


set_option maxHeartbeats 400000 in
theorem pipeOpen_any (base pb : Nat) (X : Nat → Prop) (A : Option Addr) (c : Nat) (ls : List PV) (cl : Bool) (w : World) (h : PipeAt w base pb X A c ls cl) :
    Calls Try.prog 22 #[.pointer (some ⟨pb, 0, none⟩)] w fun e w' => e = .returned (.tuple #[]) ∧ PipeTo w base pb X A [] false w' := by
  have c0 := h.c0
  have c1 := h.c1
  have f0 := h.f0
  have f1 := h.f1
  have k : Fr (fun b => b = pb) w ((w.setCell ⟨pb, 0, none⟩ (.slice none 0 0)).setCell ⟨pb, 1, none⟩ (.bool false)) := ((Fr.refl (fun b => b = pb) w).setAt pb 0 rfl _).setAt pb 1 rfl _
  have b2 := (h.blk.set_ 0 (.slice none 0 0)).set_ 1 (.bool false)
  simp only [List.setIfInBounds_toArray, List.set_cons_zero, List.set_cons_succ] at b2
  have HT : Hid (PipeTo w base pb X A [] false ((w.setCell ⟨pb, 0, none⟩ (.slice none 0 0)).setCell ⟨pb, 1, none⟩ (.bool false))) := Lib.hid ⟨⟨none, 0, [], ⟨b2, Row.none_ _ _ _ _, by simp, by simp⟩, rfl, fun g hg => by cases hg⟩, k.mono (fun _ _ e => .inl e)⟩
  clear h k b2
  go_enter Try.func22, Try.ntmps22
  go_wp2_with fail
  go_end0
  exact ⟨rfl, HT.out⟩

set_option maxRecDepth 100000 in
set_option maxHeartbeats 1000000 in
theorem pipeClone_any (base pb : Nat) (X : Nat → Prop) (A : Option Addr) (c : Nat) (ls : List PV) (cl : Bool) (w : World) (h : PipeAt w base pb X A c ls cl) (hn : ls.length ≤ 1000000) :
    Calls Try.prog 24 #[.pointer (some ⟨pb, 0, none⟩)] w fun e w' => (∃ (qb : Nat) (A' : Option Addr) (c' : Nat), e = .returned (.pointer (some ⟨qb, 0, none⟩)) ∧ w.heap.size ≤ qb ∧ PipeAt w' w.heap.size qb (fun _ => False) A' c' ls cl) ∧ Below w.heap.size w w' := by
  have HH := Lib.hid h
  clear h
  go_enter Try.func24, Try.ntmps24
  go_wp2_with fail
  refine wp_region_p [(0, true), (1, true), (2, true), (3, true), (5, true), (6, true), (7, true), (8, true), (4, false)] (fun W => Below w.heap.size w W) (by kernel_rfl) (by kernel_rfl) ?_
  simp only [List.map_cons, List.map_nil, List.filterMap_cons, List.filterMap_nil, List.getElem?_cons_zero, List.getElem?_cons_succ, List.length_cons, List.length_nil, Nat.zero_add, Nat.reduceAdd, List.drop_succ_cons, List.drop_zero]
  refine mx_move _ (by kernel_rfl) rfl ⟨_, (by ((try simp [go_sem]); (try rfl); done)), _, (by (simp only [Act.put, List.setIfInBounds_toArray, List.set_cons_zero, List.set_cons_succ]; rfl)), ?_⟩
  refine mx_val (by kernel_rfl) ⟨_, (by (intro w' hC; clear hC; (try go_simp); (try with_reducible rfl); done)), _, (by (simp only [Act.put, List.setIfInBounds_toArray, List.set_cons_zero, List.set_cons_succ]; rfl)), ?_⟩
  refine mx_val (by kernel_rfl) ⟨_, (by (intro w' hC; clear hC; (try go_simp); (try with_reducible rfl); done)), _, (by (simp only [Act.put, List.setIfInBounds_toArray, List.set_cons_zero, List.set_cons_succ]; rfl)), ?_⟩
  refine mx_val (by kernel_rfl) ⟨_, (by (intro w' hC; (have hq := HH.out.below hC; have c0 := hq.c0; have c1 := hq.c1); clear hC; (try go_simp); (try with_reducible rfl); done)), _, (by (simp only [Act.put, List.setIfInBounds_toArray, List.set_cons_zero, List.set_cons_succ]; rfl)), ?_⟩
  refine mx_move _ (by kernel_rfl) rfl ⟨_, (by ((try simp [go_sem]); (try rfl); done)), _, (by (simp only [Act.put, List.setIfInBounds_toArray, List.set_cons_zero, List.set_cons_succ]; rfl)), ?_⟩
  refine mx_val (by kernel_rfl) ⟨_, (by (intro w' hC; clear hC; (try go_simp); (try with_reducible rfl); done)), _, (by (simp only [Act.put, List.setIfInBounds_toArray, List.set_cons_zero, List.set_cons_succ]; rfl)), ?_⟩
  refine mx_val (by kernel_rfl) ⟨_, (by (intro w' hC; clear hC; (try go_simp); (try with_reducible rfl); done)), _, (by (simp only [Act.put, List.setIfInBounds_toArray, List.set_cons_zero, List.set_cons_succ]; rfl)), ?_⟩
  refine mx_val (by kernel_rfl) ⟨_, (by (intro w' hC; (have hq := HH.out.below hC; have c0 := hq.c0; have c1 := hq.c1); clear hC; (try go_simp); (try with_reducible rfl); done)), _, (by (simp only [Act.put, List.setIfInBounds_toArray, List.set_cons_zero, List.set_cons_succ]; rfl)), ?_⟩
  refine mx_call ((Below.refl _ _).drew) (by kernel_rfl) ?_ (cloneP_any A c ls _ _ (HH.out.row.rd.below (Below.refl _ _).drew) hn) ?_
  · (go_simp; done)
  rintro e w2 ⟨A2, c2, rfl, hr2, hb2⟩
  have hb2' : Below w.heap.size w w2 := (Below.refl _ _).drew.trans (hb2.mono (Below.refl w.heap.size w).drew.size)
  refine ⟨_, rfl, _, (by (simp only [Act.put, List.setIfInBounds_toArray, List.set_cons_zero, List.set_cons_succ]; rfl)), ?_⟩
  refine mx_end hb2' ?_
  have ba : Below w2.heap.size w2 (w2.alloc (.cells #[.slice A2 ls.length c2, .bool cl] 43)) := (Below.refl _ _).alloc (Nat.le_refl _) _
  have hw3 := hb2'.trans (ba.mono hb2'.size)
  have hlt := hr2.lt
  have HPA : Hid (PipeAt (w2.alloc (.cells #[.slice A2 ls.length c2, .bool cl] 43)) w.heap.size w2.heap.size (fun _ => False) A2 c2 ls cl) := Lib.hid ⟨Blk.new _ _ _, Row.alloc (hr2.rebase (fun g hg => (hlt g hg).1)) _, fun p hp => (((HH.out.ok p hp).mono (Z' := fun b => b < w.heap.size) (fun b hb _ => hb)).below hw3).mono (fun b _ hz => ⟨by have := hb2'.size; omega, fun e => by have h1 : w.heap.size ≤ b := (hlt b e).1; omega, fun e => e⟩), HH.out.full⟩
  have hs2 := hb2'.size
  clear hr2 hb2 ba hlt
  go_wp2_with fail
  go_ret
  exact ⟨⟨w2.heap.size, A2, c2, rfl, hs2, HPA.out⟩, hw3⟩

end Go.Proofs.Yticfjnjeoikalaa

/- pipe: slices.DeleteFunc of parcels of which all have bytes, or the only one has none. -/
namespace Go.Proofs.Yticfjnjeoikalaa
open Go.RowKit

def CUTF : Value := .func (.func 33) #[] #[]
theorem cut1_any (A : Option Addr) (n c : Nat) (b d : Bool) (w : World) : Calls Try.prog 33 #[.agg #[.slice A n c, .bool b, .bool d]] w fun e w' => e = .returned (.bool ((n : Int) == 0)) ∧ Below w.heap.size w w' := by
  have hb0 : Below w.heap.size w (w.alloc (.cells #[.slice A n c, .bool b, .bool d] 56)) := (Below.refl _ _).alloc (Nat.le_refl _) _
  have c0 := (Blk.new w 56 #[.slice A n c, .bool b, .bool d]).cell 0
  simp only [List.getElem?_toArray, List.getElem?_cons_zero] at c0
  go_enter Try.func33, Try.ntmps33
  go_wp2_with fail
  go_ret
  exact ⟨rfl, hb0⟩
set_option maxHeartbeats 400000 in
theorem indexFull_any (A : Option Addr) (c : Nat) (ls : List PV) (Z : Nat → Prop) (w : World) (h : Rd w Z 3 A ls.length (ls.flatMap PV.cells)) (hf : ∀ p ∈ ls, 0 < p.x.l.length) (hn : ls.length ≤ 1000000) :
    Calls Try.prog 35 #[.slice A ls.length c, CUTF] w fun e w' => e = .returned (.int .i64 (-1)) ∧ Below w.heap.size w w' := by
  have HH := Lib.hid h
  have HF := Lib.hid hf
  unfold CUTF
  clear h hf
  go_enter Try.func35, Try.ntmps35
  go_wp2_with fail
  go_loopw [8] (fun iv wr => ∃ i : Nat, i ≤ ls.length ∧ iv = .int .i64 (i : Int) ∧ Below w.heap.size w wr) (fun iv _ => ls.length - (intOf iv).toNat)
  case atStart => exact ⟨0, Nat.zero_le _, rfl, Below.refl _ _⟩
  case round =>
    obtain ⟨i, hi, rfl, hb⟩ := hrel
    by_cases hlt : i < ls.length
    · have hr := HH.out.below hb
      have hg : ∀ j, j < 3 → (ls.flatMap PV.cells)[i * 3 + j]? = (PV.cells ls[i])[j]? := fun j hj => flat_get (k := 3) (fun _ => rfl) ls i j hlt hj
      obtain ⟨b, off, rfl, _, hbb, hc⟩ := hr.2 (by omega)
      have q0 := hc _ _ (hg 0 (by omega))
      have q1 := hc _ _ (hg 1 (by omega))
      have q2 := hc _ _ (hg 2 (by omega))
      have hf0 := HF.out _ (List.getElem_mem hlt)
      rw [Nat.add_zero] at q0
      rw [← Nat.add_assoc] at q1 q2
      clear hg hc hr
      generalize ls[i] = p at *
      obtain ⟨⟨pA, pc, pl⟩, pb', pd⟩ := p
      dsimp only [PV.cells] at *
      have HC := Lib.hid (cut1_any pA pl.length pc pb' pd wr)
      rw [show (((pl.length : Nat) : Int) == 0) = false by rw [beq_eq_false_iff_ne]; omega] at HC
      go_wp2_with fail
      refine HC.out.mono ?_
      rintro e w2 ⟨rfl, hb2⟩
      have hb3 := hb.trans (hb2.mono hb.size)
      clear HC hb2
      go_wp2_with fail
      go_roundw
      case rel => exact ⟨i + 1, hlt, by go_num, hb3⟩
      case measure => simp [intOf]; omega
    · go_wp2_with fail
      go_ret
      exact ⟨rfl, hb⟩
set_option maxHeartbeats 400000 in
theorem delFull_any (A : Option Addr) (c : Nat) (ls : List PV) (Z : Nat → Prop) (w : World) (h : Rd w Z 3 A ls.length (ls.flatMap PV.cells)) (hf : ∀ p ∈ ls, 0 < p.x.l.length) (hn : ls.length ≤ 1000000) :
    Calls Try.prog 32 #[.slice A ls.length c, CUTF] w fun e w' => e = .returned (.slice A ls.length c) ∧ Below w.heap.size w w' := by
  have HI := Lib.hid (indexFull_any A c ls Z w h hf hn)
  unfold CUTF at HI ⊢
  clear h
  go_enter Try.func32, Try.ntmps32
  go_wp2_with fail
  refine HI.out.mono ?_
  rintro e w1 ⟨rfl, hb1⟩
  go_wp2_with fail
  go_ret
  exact ⟨rfl, hb1⟩
set_option maxHeartbeats 400000 in
theorem indexOne_any (g off c : Nat) (x : PV) (w : World) (hg : g < w.heap.size) (q0 : w.cell? ⟨g, off, none⟩ = some (.slice x.x.A x.x.l.length x.x.c)) (q1 : w.cell? ⟨g, off + 1, none⟩ = some (.bool x.b)) (q2 : w.cell? ⟨g, off + 2, none⟩ = some (.bool x.d)) (hx : x.x.l.length = 0) :
    Calls Try.prog 35 #[.slice (some ⟨g, off, none⟩) 1 c, CUTF] w fun e w' => e = .returned (.int .i64 0) ∧ Below w.heap.size w w' := by
  unfold CUTF
  have HC := Lib.hid (cut1_any x.x.A x.x.l.length x.x.c x.b x.d w)
  rw [show (((x.x.l.length : Nat) : Int) == 0) = true by rw [hx]; rfl] at HC
  have HX := Lib.hid hx
  clear hx
  go_enter Try.func35, Try.ntmps35
  go_wp2_with fail
  go_loopw [8] (fun iv wr => iv = .int .i64 0 ∧ wr = w) (fun _ _ => 0)
  case atStart => exact ⟨rfl, rfl⟩
  case round =>
    obtain ⟨rfl, rfl⟩ := hrel
    go_wp2_with fail
    refine HC.out.mono ?_
    rintro e w2 ⟨rfl, hb2⟩
    go_wp2_with fail
    go_ret
    exact ⟨rfl, hb2⟩
theorem clear_par (w : World) (b o c : Nat) (ty : TypeId) (hc : ∀ j, j < 3 → (w.cell? ⟨b, o + j, none⟩).isSome = true) (hf : ∀ j, j < 3 → w.frozen? ⟨b, o + j, none⟩ = false) :
    (Builtin.clear_ #[41] ty #[.slice (some ⟨b, o, none⟩) 1 c]).run Try.prog w = .ok (.tuple #[]) (((w.setCell ⟨b, o, none⟩ (.slice none 0 0)).setCell ⟨b, o + 1, none⟩ (.bool false)).setCell ⟨b, o + 2, none⟩ (.bool false)) := by
  have hst := run_storeCells_cells (P := Try.prog) b o [.slice none 0 0, .bool false, .bool false] 0 w (by simpa using hc) (by simpa using hf) (by intro v hv; simp at hv; rcases hv with rfl | rfl <;> rfl)
  simp only [Nat.add_zero] at hst
  have hzc : (Builtin.zeroCells (Value.agg #[.slice none 0 0, .bool false, .bool false]).cells 1).toList = [.slice none 0 0, .bool false, .bool false] := by kernel_rfl
  simp [Builtin.clear_, run_underlying Try.underlying41, hzc, hst]
  rfl
set_option maxHeartbeats 400000 in
theorem delOne_any (base g off c : Nat) (x : PV) (w : World) (h : Row w base 56 3 (some ⟨g, off, none⟩) 1 c x.cells) (hx : x.x.l.length = 0) :
    Calls Try.prog 32 #[.slice (some ⟨g, off, none⟩) 1 c, CUTF] w fun e w' => e = .returned (.slice (some ⟨g, off, none⟩) 0 c) ∧ Row w' base 56 3 (some ⟨g, off, none⟩) 0 c [] ∧ Fr (fun b => b = g) w w' := by
  have hgl : g < w.heap.size := (h.lt g rfl).2
  have q0 := h.cell (j := 0) (u := .slice x.x.A x.x.l.length x.x.c) rfl
  have q1 := h.cell (j := 1) (u := .bool x.b) rfl
  have q2 := h.cell (j := 2) (u := .bool x.d) rfl
  have HI := Lib.hid (indexOne_any g off c x w hgl q0 q1 q2 hx)
  unfold CUTF at HI ⊢
  have hroom := h.room
  have hcap := h.cap
  have HR := Lib.hid h
  clear q0 q1 q2 h
  go_enter Try.func32, Try.ntmps32
  go_wp2_with fail
  refine HI.out.mono ?_
  rintro e w1 ⟨rfl, hb1⟩
  have hr1 := HR.out.below hb1
  have q0 := hr1.cell (j := 0) (u := .slice x.x.A x.x.l.length x.x.c) rfl
  have q1 := hr1.cell (j := 1) (u := .bool x.b) rfl
  have q2 := hr1.cell (j := 2) (u := .bool x.d) rfl
  have fz := fun i => hr1.frozen i
  go_wp2_with fail
  have hcl := clear_par w1 g off c 0 (fun j hj => by
    rcases j with _ | _ | _ | j
    · rw [q0]; rfl
    · rw [q1]; rfl
    · rw [q2]; rfl
    · omega) (fun j _ => fz _)
  have hr3 := (((hr1.put 0 (.slice none 0 0)).put 1 (.bool false)).put 2 (.bool false)).zero
  have k3 : Fr (fun b => b = g) w1 (((w1.setCell ⟨g, off, none⟩ (.slice none 0 0)).setCell ⟨g, off + 1, none⟩ (.bool false)).setCell ⟨g, off + 2, none⟩ (.bool false)) := (((Fr.refl (fun b => b = g) w1).setAt g off rfl _).setAt g (off + 1) rfl _).setAt g (off + 2) rfl _
  have HR3 := Lib.hid hr3
  have HK3 := Lib.hid ((Fr.of_below hb1 (fun b => b = g)).trans k3 (fun _ _ e => e))
  clear hr3 k3 hr1 q0 q1 q2 fz
  go_loopw [5, 6] (fun iv jv wr => iv = .int .i64 0 ∧ jv = .int .i64 1 ∧ wr = w1) (fun _ _ _ => 0)
  case atStart => exact ⟨rfl, rfl, rfl⟩
  case round =>
    obtain ⟨rfl, rfl, rfl⟩ := hrel
    go_wp2_with fail
    go_ret
    exact ⟨rfl, HR3.out, HK3.out⟩
end Go.Proofs.Yticfjnjeoikalaa

/- What the document's pipe does, plainly: byte by byte, parcel by parcel. No program. -/
namespace Go.Proofs.Yticfjnjeoikalaa

abbrev PP := List UInt8 × Bool × Bool
theorem dropS_one {x : UInt8} {xs : List UInt8} {b d : Bool} {r : List PP} {m : Nat} : dropS ((x :: xs, b, d) :: r) (m + 1) = dropS (if xs = [] then r else (xs, true, d) :: r) m := by
  by_cases hx : xs = []
  · subst hx
    rw [if_pos rfl, dropS_all (by omega) (by simp)]
    simp
  · have hxl : 0 < xs.length := List.length_pos_iff.2 hx
    rw [if_neg hx]
    by_cases h : m < xs.length
    · rw [dropS_part (by omega) (by simp; omega)]
      rcases Nat.eq_zero_or_pos m with e | e
      · subst e; rw [dropS_zero]; simp
      · rw [dropS_part e h]; simp
    · rw [dropS_all (by omega) (by simp; omega), dropS_all (by omega) (by omega)]
      congr 1
      simp
theorem flat_one {x : UInt8} {xs : List UInt8} {b d : Bool} {r : List PP} {m : Nat} : (flatP ((x :: xs, b, d) :: r)).take (m + 1) = x :: (flatP (if xs = [] then r else (xs, true, d) :: r)).take m := by
  unfold flatP
  rw [List.flatMap_cons]
  by_cases hx : xs = []
  · subst hx
    rw [if_pos rfl]; simp
  · rw [if_neg hx, List.flatMap_cons]; simp
/-- what Cut leaves -/
def cutS : List PP → Int → List PP
  | [], _ => []
  | p :: xs, n => if n ≤ 0 then [] else if n < (p.1.length : Int) then [(p.1.take n.toNat, p.2)] else p :: cutS xs (n - p.1.length)
theorem cutS_zero (S : List PP) {n : Int} (h : n ≤ 0) : cutS S n = [] := by
  cases S with
  | nil => rfl
  | cons p S => rw [cutS, if_pos h]
theorem cutS_max (S : List PP) (n : Int) : cutS S (max n 0) = cutS S n := by
  rcases Int.le_total n 0 with h | h
  · rw [Int.max_eq_right h, cutS_zero S h, cutS_zero S (Int.le_refl 0)]
  · rw [Int.max_eq_left h]
/-- the parcels that have bytes -/
def fullS (S : List PP) : List PP := S.filter fun p => !decide (p.1.length = 0)
theorem fullS_self {S : List PP} (h : ∀ p ∈ S, 0 < p.1.length) : fullS S = S := by
  unfold fullS
  rw [List.filter_eq_self]
  intro p hp
  have := h p hp
  rw [decide_eq_false (by omega)]; rfl
/-- where Cut stops -/
theorem cut_stop {p : PP} {xs : List PP} {n : Int} (hp : 0 < p.1.length) (h0 : 0 ≤ n) (h : n ≤ (p.1.length : Int)) : fullS [(p.1.take n.toNat, p.2)] = cutS (p :: xs) n := by
  unfold cutS fullS
  by_cases h1 : n ≤ 0
  · rw [if_pos h1]
    have : n.toNat = 0 := by omega
    rw [this]; rfl
  · rw [if_neg h1]
    have h2 : 0 < n.toNat := by omega
    by_cases h3 : n < (p.1.length : Int)
    · rw [if_pos h3, List.filter_cons, if_pos (by rw [List.length_take, decide_eq_false (by omega)]; rfl)]; rfl
    · rw [if_neg h3, cutS_zero xs (by omega)]
      have : p.1.take n.toNat = p.1 := List.take_of_length_le (by omega)
      have hp' : ¬ p.1.length = 0 := by omega
      rw [this]
      show [((p.1, p.2) : PP)].filter _ = _
      rw [List.filter_cons, if_pos (by show (!decide (p.1.length = 0)) = true; rw [decide_eq_false hp']; rfl)]; rfl
theorem cut_on {p : PP} {xs : List PP} {n : Int} (h : (p.1.length : Int) < n) : cutS (p :: xs) n = p :: cutS xs (n - p.1.length) := by
  rw [cutS, if_neg (by omega), if_neg (by omega)]
theorem flat_cutS : ∀ (S : List PP) (n : Int), (flatP (cutS S n)).length ≤ (flatP S).length
  | [], n => by simp [cutS]
  | q :: S, n => by
    unfold cutS
    split
    · simp [flatP]
    · split
      · unfold flatP
        simp only [List.flatMap_cons, List.flatMap_nil, List.append_nil, List.length_append, List.length_take]; omega
      · have := flat_cutS S (n - q.1.length)
        unfold flatP at this ⊢
        simp only [List.flatMap_cons, List.length_append]; omega
end Go.Proofs.Yticfjnjeoikalaa

/- pipe: Cut. -/
namespace Go.Proofs.Yticfjnjeoikalaa
open Go.RowKit

theorem flat_takeP : ∀ (l : List PV) (k : Nat), (l.flatMap PV.cells).take (k * 3) = (l.take k).flatMap PV.cells
  | [], k => by simp
  | p :: l, 0 => by simp
  | p :: l, k + 1 => by
    rw [List.flatMap_cons, List.take_succ_cons, List.flatMap_cons, show (k + 1) * 3 = k * 3 + 1 + 1 + 1 by omega]
    simp only [PV.cells, List.cons_append, List.nil_append, List.take_succ_cons]
    rw [flat_takeP l k]
theorem set_takeP (l : List PV) (i : Nat) (x : PV) (h : i < l.length) : (l.set i x).take (i + 1) = l.take i ++ [x] := by
  rw [List.take_succ_eq_append_getElem (by rw [List.length_set]; exact h), List.getElem_set_self, List.take_set_of_le (Nat.le_refl _)]
theorem PV.s_len (p : PV) : p.s.1.length = p.x.l.length := rfl
/-- what is left when Cut stopped -/
theorem cut_to {wr w2 w3 w5 : World} {base pb g off c c3 : Nat} {X : Nat → Prop} {A3 : Option Addr} {ls ls2 : List PV} {v3 : Value}
    (h : PipeAt wr base pb X (some ⟨g, off, none⟩) c ls true) (k8 : Fr (fun b => b = g) wr w2) (hb3 : Below w2.heap.size w2 w3) (hA : ∀ k, ablk A3 = some k → w2.heap.size ≤ k)
    (k5 : Fr (fun b => ablk A3 = some b) (w3.setCell ⟨pb, 0, none⟩ v3) w5) (hr : Pars w5 base A3 c3 ls2)
    (hok : ∀ p ∈ ls2, p.x.ok w2 (fun b => b ≠ pb ∧ ablk (some ⟨g, off, none⟩) ≠ some b ∧ ¬ X b)) (hfull : ∀ p ∈ ls2, 0 < p.x.l.length) :
    PipeTo wr base pb X (some ⟨g, off, none⟩) (ls2.map PV.s) true (w5.setCell ⟨pb, 0, none⟩ (.slice A3 ls2.length c3)) := by
  have hgp : g ≠ pb := fun e => h.ne (by rw [e]; rfl)
  have hs2 : wr.heap.size ≤ w2.heap.size := k8.size
  have hpb := h.blk.lt
  have b2 := h.blk.fr k8 (fun e => hgp e.symm)
  have b3 := b2.below hb3
  have b4 := b3.set_ 0 v3
  have b5 := b4.fr k5 (fun e => by have := hA _ e; omega)
  have b6 := b5.set_ 0 (.slice A3 ls2.length c3)
  have f4 : Fr (fun x => x = pb) w3 (w3.setCell ⟨pb, 0, none⟩ v3) := (Fr.refl (fun x => x = pb) w3).setAt pb 0 rfl _
  have f6 : Fr (fun x => x = pb) w5 (w5.setCell ⟨pb, 0, none⟩ (.slice A3 ls2.length c3)) := (Fr.refl (fun x => x = pb) w5).setAt pb 0 rfl _
  refine ⟨⟨A3, c3, ls2, ⟨by simpa using b6, hr.fr f6 (fun k hk e => by have := hA k hk; omega), ?_, hfull⟩, rfl, fun k hk => .inr (by have := hA k hk; omega)⟩, ?_⟩
  · intro p hp
    have h1 := (hok p hp).mono (Z' := fun b => (b ≠ pb ∧ ablk (some ⟨g, off, none⟩) ≠ some b ∧ ¬ X b) ∧ b < w2.heap.size) (fun b hb hz => ⟨hz, hb⟩)
    have h2 := (((h1.below hb3).fr f4 (fun b _ hz => hz.1.1)).fr k5 (fun b _ hz e => by have := hA b e; have := hz.2; omega)).fr f6 (fun b _ hz => hz.1.1)
    exact h2.mono (fun b _ hz => ⟨hz.1.1, fun e => by have := hA b e; have := hz.2; omega, hz.1.2.2⟩)
  · have q1 : Fr (fun k => k = pb ∨ ablk (some ⟨g, off, none⟩) = some k) wr w2 := k8.mono (fun _ _ e => .inr (by rw [e]; rfl))
    exact (((q1.then_below hb3).trans f4 (fun x _ e => .inl e)).trans k5 (fun x hx e => absurd (hA x e) (by omega))).trans f6 (fun x _ e => .inl e)
/-- what DeleteFunc leaves of it -/
theorem cutDel_any (base : Nat) (A : Option Addr) (c : Nat) (l : List PV) (w : World) (h : Pars w base A c l) (hsh : (∀ p ∈ l, 0 < p.x.l.length) ∨ (∃ x, l = [x] ∧ x.x.l.length = 0)) (hl : l.length ≤ 1000000) :
    Calls Try.prog 32 #[.slice A l.length c, CUTF] w fun e w' => ∃ l' : List PV, e = .returned (.slice A l'.length c) ∧ Pars w' base A c l' ∧ Fr (fun b => ablk A = some b) w w' ∧ Hid (l'.map PV.s = fullS (l.map PV.s)) ∧ (∀ p ∈ l', p ∈ l ∧ 0 < p.x.l.length) := by
  rcases hsh with hf | ⟨x, rfl, hx⟩
  · refine (delFull_any A c l _ w h.rd hf hl).mono ?_
    rintro e w' ⟨rfl, hb⟩
    refine ⟨l, rfl, h.below hb, Fr.of_below hb _, Lib.hid ?_, fun p hp => ⟨hp, hf p hp⟩⟩
    rw [fullS_self]
    intro p hp
    obtain ⟨q, hq, rfl⟩ := List.mem_map.1 hp
    exact hf q hq
  · obtain ⟨g, off, rfl, _, _⟩ := h.addr (by simp)
    have h' : Row w base 56 3 (some ⟨g, off, none⟩) 1 c x.cells := by
      have := h
      unfold Pars at this
      rw [List.flatMap_cons, List.flatMap_nil, List.append_nil] at this
      exact this
    refine (delOne_any base g off c x w h' hx).mono ?_
    rintro e w' ⟨rfl, hr, hk⟩
    refine ⟨[], rfl, hr, hk.mono (fun b _ e => by rw [e]; rfl), Lib.hid ?_, by simp⟩
    show [] = fullS [x.s]
    unfold fullS
    rw [List.filter_cons, if_neg (by rw [PV.s_len, hx]; simp)]; rfl
theorem fullS_app {S : List PP} {x : PP} (h : ∀ p ∈ S, 0 < p.1.length) : fullS (S ++ [x]) = S ++ fullS [x] := by
  have := fullS_self h
  unfold fullS at this ⊢
  rw [List.filter_append, this]

set_option maxRecDepth 100000 in
set_option maxHeartbeats 2000000 in
theorem pipeCut_any (base pb : Nat) (X : Nat → Prop) (A : Option Addr) (c : Nat) (ls : List PV) (cl : Bool) (w : World) (h : PipeAt w base pb X A c ls cl) (n : Int) (hn : -9223372036854775808 ≤ n ∧ n < 9223372036854775808) (hl : ls.length ≤ 1000000) (hlen : ∀ p ∈ ls, p.x.l.length ≤ 140737488355328) (hbase : base ≤ w.heap.size) :
    Calls Try.prog 20 #[.pointer (some ⟨pb, 0, none⟩), .int .i64 n] w fun e w' => e = .returned (.tuple #[]) ∧ PipeTo w base pb X A (cutS (ls.map PV.s) n) true w' := by
  have HH := Lib.hid h
  have c0 := h.c0
  have c1 := h.c1
  have f1 := h.f1
  obtain ⟨m, hm⟩ : ∃ m : Nat, (m : Int) = max n 0 := ⟨(max n 0).toNat, by omega⟩
  have HM := Lib.hid hm
  have hmax : max n 0 = (m : Int) := hm.symm
  have k1 : Fr (fun b => b = pb) w (w.setCell ⟨pb, 1, none⟩ (.bool true)) := (Fr.refl (fun b => b = pb) w).setAt pb 1 rfl _
  have b1 := h.blk.set_ 1 (.bool true)
  simp only [List.setIfInBounds_toArray, List.set_cons_zero, List.set_cons_succ] at b1
  have hne := h.ne
  have HP1 : Hid (PipeAt (w.setCell ⟨pb, 1, none⟩ (.bool true)) base pb X A c ls true) := Lib.hid ⟨b1, h.row.fr k1 (fun g hg e => hne (by rw [hg, e])), fun p hp => (h.ok p hp).fr k1 (fun b _ hz => hz.1), h.full⟩
  have HK1 := Lib.hid k1
  have HN := Lib.hid (show cutS (ls.map PV.s) (m : Int) = cutS (ls.map PV.s) n by rw [hm, cutS_max])
  clear h k1 b1 hm
  go_enter Try.func20, Try.ntmps20
  go_upto_region 3 with (fail)
  clear c0 c1 f1
  generalize w.setCell ⟨pb, 1, none⟩ (.bool true) = w1 at *
  have c0 := HP1.out.c0
  go_wp2_with fail
  go_loopw [4, 19] (fun lv iv wr => ∃ (i q : Nat), i ≤ ls.length ∧ iv = .int .i64 (i : Int) ∧ lv = .int .i64 (q : Int) ∧ Hid ((ls.map PV.s).take i ++ cutS ((ls.map PV.s).drop i) (q : Int) = cutS (ls.map PV.s) n) ∧ Hid (0 < i → 0 < q) ∧ q ≤ 9223372036854775807 ∧ wr = w1) (fun _ iv _ => ls.length - (intOf iv).toNat)
  case atStart => exact ⟨0, m, Nat.zero_le _, rfl, by first | rfl | simp [hmax], Lib.hid (by rw [List.take_zero, List.drop_zero, List.nil_append]; exact HN.out), Lib.hid (fun h => absurd h (by omega)), by have := HM.out; omega, rfl⟩
  case round =>
    obtain ⟨i, q, hi, rfl, rfl, hC, hq, hqm, rfl⟩ := hrel
    by_cases hlt : i < ls.length
    · obtain ⟨g, off, rfl, hgb, hgl, hgne, q0, q1, q2⟩ := HP1.out.par hlt
      obtain ⟨p, hp⟩ : ∃ p, p = ls[i] := ⟨_, rfl⟩
      have hpf : 0 < p.x.l.length := by rw [hp]; exact HP1.out.full _ (List.getElem_mem hlt)
      have hpl : p.x.l.length ≤ 140737488355328 := by rw [hp]; exact hlen _ (List.getElem_mem hlt)
      have hdr : (ls.map PV.s).drop i = p.s :: (ls.map PV.s).drop (i + 1) := by rw [List.drop_eq_getElem_cons (by simpa using hlt), List.getElem_map, hp]
      have htk : (ls.map PV.s).take (i + 1) = (ls.map PV.s).take i ++ [p.s] := by rw [List.take_succ_eq_append_getElem (by simpa using hlt), List.getElem_map, hp]
      have HPE := Lib.hid hp
      rw [← hp] at q0 q1 q2
      by_cases hst : q ≤ p.x.l.length
      · have hpo := HP1.out.ok _ (List.getElem_mem hlt)
        rw [← HPE.out] at hpo
        have hqc : q ≤ p.x.c := Nat.le_trans hst hpo.2.1
        have htl : (p.x.l.take q).length = q := by rw [List.length_take]; omega
        have hr8 := par_x HP1.out.row hlt ⟨p.x.A, q, p.x.l.take q⟩
        rw [← HPE.out] at hr8
        dsimp only at hr8
        rw [htl] at hr8
        have fz := HP1.out.row.frozen (off + i * 3)
        have HR8 := Lib.hid hr8
        have k8 : Fr (fun b => b = g) wr (wr.setCell ⟨g, off + i * 3, none⟩ (.slice p.x.A q q)) := (Fr.refl (fun b => b = g) wr).setAt g _ rfl _
        have HK8 := Lib.hid k8
        have cp8 := (HP1.out.blk.fr k8 (fun e => hgne e.symm)).cell 0
        simp only [List.getElem?_toArray, List.getElem?_cons_zero] at cp8
        clear hr8 k8 hdr htk hp
        go_upto_region 9 with (fail)
        clear fz q0 q1 q2 c0
        generalize wr.setCell ⟨g, off + i * 3, none⟩ (.slice p.x.A q q) = w2 at *
        obtain ⟨x', hx'⟩ : ∃ x' : PV, x' = { p with x := ⟨p.x.A, q, p.x.l.take q⟩ } := ⟨_, rfl⟩
        rw [← hx'] at HR8
        have HX := Lib.hid hx'
        have hrt := (HR8.out.rd).take (k := i + 1) (by omega)
        rw [flat_takeP, set_takeP ls i x' hlt] at hrt
        have hll : (ls.take i ++ [x']).length = i + 1 := by rw [List.length_append, List.length_take]; simp; omega
        have hroom := HR8.out.room
        have HCL := Lib.hid (cloneP_any (some ⟨g, off, none⟩) c (ls.take i ++ [x']) _ w2 (by rw [hll]; exact hrt) (by omega))
        rw [hll] at HCL
        have hwi : IntKind.i64.wrap ((i : Int) + 1) = (i : Int) + 1 := by rw [IntKind.wrap_i64]; omega
        have hcm := HR8.out.cap
        have hmx : maxLen = 9223372036854775807 := rfl
        rw [hmx] at hcm
        clear hx' hrt
        go_wp2_with fail
        refine HCL.out.mono ?_
        rintro e w3 ⟨A3, c3, rfl, hr3, hb3⟩
        have hA3 : ∀ k, ablk A3 = some k → w2.heap.size ≤ k := fun k hk => (hr3.lt k hk).1
        have hbase2 : base ≤ w2.heap.size := Nat.le_trans hbase (Nat.le_trans HK1.out.size HK8.out.size)
        have hb3' := (hb3 : Below w2.heap.size w2 w3)
        have B3 := (HP1.out.blk.fr HK8.out (fun e => hgne e.symm)).below hb3'
        have c03 := B3.cell 0
        have f03 := B3.frozen 0
        have hgpb : g ≠ pb := hgne
        have hpbl : pb < w2.heap.size := Nat.lt_of_lt_of_le HP1.out.blk.lt HK8.out.size
        have f4 : Fr (fun x => x = pb) w3 (w3.setCell ⟨pb, 0, none⟩ (.slice A3 (i + 1) c3)) := (Fr.refl (fun x => x = pb) w3).setAt pb 0 rfl _
        have hP4 : Pars (w3.setCell ⟨pb, 0, none⟩ (.slice A3 (i + 1) c3)) base A3 c3 (ls.take i ++ [x']) := by
          unfold Pars
          rw [hll]
          exact (hr3.rebase (fun k hk => Nat.le_trans hbase2 (hA3 k hk))).fr f4 (fun k hk e => by have := hA3 k hk; omega)
        have hx'l : x'.x.l.length = q := by rw [HX.out]; exact htl
        have htf : ∀ p ∈ ls.take i, 0 < p.x.l.length := fun p hp => HP1.out.full p (List.mem_of_mem_take hp)
        have hsh : (∀ p ∈ ls.take i ++ [x'], 0 < p.x.l.length) ∨ (∃ x, ls.take i ++ [x'] = [x] ∧ x.x.l.length = 0) := by
          rcases Nat.eq_zero_or_pos q with hq0 | hq0
          · right
            have hi0 : i = 0 := by
              rcases Nat.eq_zero_or_pos i with h | h
              · exact h
              · have := hq.out h; omega
            exact ⟨x', by rw [hi0]; rfl, by rw [hx'l, hq0]⟩
          · left
            intro p hp
            rcases List.mem_append.1 hp with hp | hp
            · exact htf p hp
            · rw [List.mem_singleton.1 hp, hx'l]; exact hq0
        have hD := cutDel_any base A3 c3 (ls.take i ++ [x']) (w3.setCell ⟨pb, 0, none⟩ (.slice A3 (i + 1) c3)) hP4 hsh (by rw [hll]; omega)
        rw [hll] at hD
        unfold CUTF at hD
        have HD := Lib.hid hD
        have HS : Hid (fullS ((ls.take i ++ [x']).map PV.s) = cutS (ls.map PV.s) n) := Lib.hid (by
          rw [← hC.out, List.map_append, List.map_take, List.map_cons, List.map_nil, fullS_app (fun p hp => by
            obtain ⟨y, hy, rfl⟩ := List.mem_map.1 (List.map_take ▸ hp)
            exact htf y hy), List.drop_eq_getElem_cons (by simpa using hlt), List.getElem_map, ← HPE.out]
          congr 1
          rw [HX.out]
          exact cut_stop (p := p.s) (xs := (ls.map PV.s).drop (i + 1)) (n := (q : Int)) hpf (by omega) (by show (q : Int) ≤ (p.x.l.length : Int); omega))
        have hok2 : ∀ y ∈ ls.take i ++ [x'], y.x.ok w2 (fun b => b ≠ pb ∧ ablk (some ⟨g, off, none⟩) ≠ some b ∧ ¬ X b) := by
          intro y hy
          rcases List.mem_append.1 hy with hy | hy
          · exact (HP1.out.ok y (List.mem_of_mem_take hy)).fr HK8.out (fun b _ hz e => hz.2.1 (by rw [e]; rfl))
          · rw [List.mem_singleton.1 hy, HX.out]
            have h1 := hpo.fr HK8.out (fun b _ hz e => hz.2.1 (by rw [e]; rfl))
            refine ⟨?_, by show (p.x.l.take q).length ≤ q; omega, by show q ≤ maxLen; exact Nat.le_trans hqc h1.2.2⟩
            show Rd w2 _ 1 p.x.A (p.x.l.take q).length ((p.x.l.take q).map bv)
            have := h1.1.take (k := q) hst
            rw [htl, List.map_take]
            rw [Nat.mul_one] at this
            exact this
        clear hr3 hb3 hP4 hD f4 B3 htf hsh hpo htl hll hx'l HCL hroom hcm
        go_wp2_with fail
        refine HD.out.mono ?_
        rintro e w5 ⟨ls5, rfl, hr5, hk5, hS5, hm5⟩
        have HTO := Lib.hid (cut_to HP1.out HK8.out hb3' hA3 hk5 hr5 (fun y hy => hok2 y (hm5 y hy).1) (fun y hy => (hm5 y hy).2))
        rw [hS5.out, HS.out] at HTO
        have HPT := Lib.hid (PipeTo.trans (fun g hg => .inl hg) (HK1.out.mono (fun _ _ e => .inl e)) HTO.out)
        have c05 := ((((HP1.out.blk.fr HK8.out (fun e => hgne e.symm)).below hb3').set_ 0 (.slice A3 (i + 1) c3)).fr hk5 (fun e => by have := hA3 _ e; omega)).cell 0
        have f05 := ((((HP1.out.blk.fr HK8.out (fun e => hgne e.symm)).below hb3').set_ 0 (.slice A3 (i + 1) c3)).fr hk5 (fun e => by have := hA3 _ e; omega)).frozen 0
        clear hk5 hr5 HD HTO
        go_wp2_with fail
        go_end0
        exact ⟨rfl, HPT.out⟩
      · obtain ⟨q', hq'⟩ : ∃ q', q' = q - p.x.l.length := ⟨_, rfl⟩
        have hws : IntKind.i64.wrap ((q : Int) - (p.x.l.length : Int)) = (q' : Int) := by
          rw [IntKind.wrap_i64]; omega
        have HC2 : Hid ((ls.map PV.s).take (i + 1) ++ cutS ((ls.map PV.s).drop (i + 1)) (q' : Int) = cutS (ls.map PV.s) n) := Lib.hid (by
          rw [← hC.out, hdr, cut_on (by show (p.x.l.length : Int) < q; omega), htk, List.append_assoc, List.singleton_append]
          congr 3
          show (q' : Int) = q - (p.x.l.length : Int)
          omega)
        have HQ2 : Hid (0 < i + 1 → 0 < q') := Lib.hid (fun _ => by omega)
        have HQE := Lib.hid hq'
        clear hdr htk hp hq'
        go_wp2_with fail
        go_roundw
        case rel => exact ⟨i + 1, q', by omega, by go_num, rfl, HC2, HQ2, by have := HQE.out; omega, by first | rfl | trivial⟩
        case measure => simp [intOf]; omega
    · have e : i = ls.length := by omega
      have HCE : Hid (ls.map PV.s = cutS (ls.map PV.s) n) := Lib.hid (by
        have := hC.out
        rw [e, List.take_of_length_le (by simp), List.drop_of_length_le (by simp)] at this
        simpa [cutS] using this)
      have HD := Lib.hid (delFull_any A c ls _ wr HP1.out.row.rd HP1.out.full hl)
      unfold CUTF at HD
      clear e hC
      go_wp2_with fail
      refine HD.out.mono ?_
      rintro e w2 ⟨rfl, hb2⟩
      have hp2 := HP1.out.below hb2
      have f0 := hp2.f0
      have c02 := hp2.c0
      have hpt := PipeTo.stored (w2 := w2) HP1.out hb2 hp2.row (World.grownBy.refl w2 _) (fun g hg => .inl hg) hp2.ok hp2.full
      have HPT := Lib.hid (PipeTo.trans (fun g hg => .inl hg) (HK1.out.mono (fun _ _ e => .inl e)) hpt)
      clear hpt hp2 hb2 HD
      go_wp2_with fail
      go_end0
      exact ⟨rfl, by rw [← HCE.out]; exact HPT.out⟩

end Go.Proofs.Yticfjnjeoikalaa

/- Drawn regions with two operations that make memory, neither of which waits for the other: both orders, and one continuation. No program. -/
namespace Go.Proofs.Yticfjnjeoikalaa
open Go.RowKit

section
variable {P : Program} {ops : Array Oper} {md : Region.Mode} {C : World → Prop}
end
end Go.Proofs.Yticfjnjeoikalaa

/- Drawn regions by a plan: operations that only tell, operations that are alone, and at forks either of two. No program. -/
namespace Go.Proofs.Yticfjnjeoikalaa
open Go.RowKit

inductive Plan where
  | done
  | tell (k : Nat) (p : Plan)
  | one (k : Nat) (p : Plan)
  | two (i : Nat) (p : Plan) (j : Nat) (q : Plan)
  | three (i : Nat) (p : Plan) (j : Nat) (q : Plan) (k : Nat) (r : Plan)
namespace Plan
def count : Plan → Nat
  | done => 0
  | tell _ p => p.count + 1
  | one _ p => p.count + 1
  | two _ p _ _ => p.count + 1
  | three _ p _ _ _ _ => p.count + 1
def ok (md : Region.Mode) (ops : Array Oper) (g m : Nat) : Plan → Array Bool → Bool
  | done, listed => Region.seqB md ops g m listed
  | tell k p, listed => decide (k < m) && (Region.ready md ops listed).contains k && Region.free md ops listed k && ok md ops g m p (listed.setIfInBounds k true)
  | one k p, listed => decide (k < m) && decide (Region.ready md ops listed = [k]) && ok md ops g m p (listed.setIfInBounds k true)
  | two i p j q, listed => decide (i < m) && decide (j < m) && decide (p.count = q.count) && decide (Region.ready md ops listed = [i, j]) && ok md ops g m p (listed.setIfInBounds i true) && ok md ops g m q (listed.setIfInBounds j true)
  | three i p j q k r, listed => decide (i < m) && decide (j < m) && decide (k < m) && decide (p.count = q.count) && decide (p.count = r.count) && decide (Region.ready md ops listed = [i, j, k]) && ok md ops g m p (listed.setIfInBounds i true) && ok md ops g m q (listed.setIfInBounds j true) && ok md ops g m r (listed.setIfInBounds k true)
end Plan
section
variable {P : Program} {ops : Array Oper} {md : Region.Mode} {C : World → Prop}
/-- an operation that is alone -/
def aloneP (P : Program) (ops : Array Oper) (o : Oper) (K : Act → World → Prop) (a : Act) (w : World) : Prop :=
  (Region.wanted o (yielded ops a.tmps) = true ∧ o.wp P a w K Qz) ∨ (Region.wanted o (yielded ops a.tmps) = false ∧ K (a.put o.dst undef) w)
def wpPlan (P : Program) (ops : Array Oper) (C : World → Prop) (E : Act → World → Prop) : Plan → Act → World → Prop
  | .done, a, w => C w ∧ E a w
  | .tell k p, a, w => ∃ o v, ops[k]? = some o ∧ StC P ops C o v a ∧ wpPlan P ops C E p (a.put o.dst v) w
  | .one k p, a, w => C w ∧ ∃ o, ops[k]? = some o ∧ aloneP P ops o (wpPlan P ops C E p) a w
  | .two i p j q, a, w => C w ∧ (∃ o, ops[i]? = some o ∧ aloneP P ops o (wpPlan P ops C E p) a w) ∧ (∃ o, ops[j]? = some o ∧ aloneP P ops o (wpPlan P ops C E q) a w)
  | .three i p j q k r, a, w => C w ∧ (∃ o, ops[i]? = some o ∧ aloneP P ops o (wpPlan P ops C E p) a w) ∧ (∃ o, ops[j]? = some o ∧ aloneP P ops o (wpPlan P ops C E q) a w) ∧ (∃ o, ops[k]? = some o ∧ aloneP P ops o (wpPlan P ops C E r) a w)
/-- nobody looks into it -/
structure PlanW (P : Program) (ops : Array Oper) (C : World → Prop) (E : Act → World → Prop) (p : Plan) (a : Act) (w : World) : Prop where
  go : wpPlan P ops C E p a w
theorem aloneP.wpOp {i : Nat} {o : Oper} {K K' : Act → World → Prop} {a : Act} {w : World} (hi : ops[i]? = some o) (hK : ∀ a' w', K a' w' → K' a' w') (h : aloneP P ops o K a w) : wpOp P ops Qz i K' a w := by
  unfold Go.wpOp
  simp only [hi]
  rcases h with ⟨hw, h⟩ | ⟨hw, h⟩
  · simp only [hw, if_true]
    exact .inl (Oper.wp_mono hK h)
  · simp only [hw, Bool.false_eq_true, if_false]
    exact hK _ _ h
theorem plan_any {m g : Nat} {Lq : Act → World → Prop} (hsel : ∀ (j : Nat) (o : Oper) cs b, ops[j]? = some o → o.op ≠ .select cs b) (hT : TailWaitsB md ops m) :
    ∀ (p : Plan) (listed : Array Bool) (a : Act) (w : World), HeadInv md ops m listed → p.ok md ops g m listed = true → wpPlan P ops C Lq p a w →
    wpAnyT P md ops C m (fun listed' a' w' => Region.seqB md ops g m listed' = true ∧ Lq a' w') p.count listed a w
  | .done, listed, a, w, _, hB, h => ⟨h.1, seqB_ready hB, hB, h.2⟩
  | .tell k p, listed, a, w, inv, hB, h => by
    simp only [Plan.ok, Bool.and_eq_true, decide_eq_true_eq] at hB
    obtain ⟨⟨⟨hkm, hr⟩, hf⟩, hB'⟩ := hB
    have hr' : k ∈ Region.ready md ops listed := by simpa using hr
    obtain ⟨o, v, h0, hy, h'⟩ := h
    exact wpAnyT_first h0 hkm hsel hT _ listed a w inv (Region.free_spec h0 hf) hr' hy (plan_any hsel hT p _ _ w (inv.set hr' hkm) hB' h')
  | .one k p, listed, a, w, inv, hB, h => by
    simp only [Plan.ok, Bool.and_eq_true, decide_eq_true_eq] at hB
    obtain ⟨⟨hkm, hr⟩, hB'⟩ := hB
    obtain ⟨hc, o, h0, h'⟩ := h
    refine ⟨hc, fun h1 => (by rw [hr] at h1; cases h1), fun i hi => ?_⟩
    have hi' := hi
    rw [hr] at hi
    obtain rfl : i = k := by simpa using hi
    exact ⟨hkm, h'.wpOp h0 fun a' w' h2 => plan_any hsel hT p _ a' w' (inv.set hi' hkm) hB' h2⟩
  | .two i p j q, listed, a, w, inv, hB, h => by
    simp only [Plan.ok, Bool.and_eq_true, decide_eq_true_eq] at hB
    obtain ⟨⟨⟨⟨⟨him, hjm⟩, hpq⟩, hr⟩, hp⟩, hq⟩ := hB
    obtain ⟨hc, ⟨oi, h0, h1⟩, ⟨oj, h2, h3⟩⟩ := h
    refine ⟨hc, fun h1 => (by rw [hr] at h1; cases h1), fun x hx => ?_⟩
    have hx' := hx
    rw [hr] at hx
    rcases List.mem_cons.1 hx with rfl | hx
    · exact ⟨him, h1.wpOp h0 fun a' w' h => plan_any hsel hT p _ a' w' (inv.set hx' him) hp h⟩
    · obtain rfl := List.mem_singleton.1 hx
      exact ⟨hjm, h3.wpOp h2 fun a' w' h => by
        have := plan_any hsel hT q _ a' w' (inv.set hx' hjm) hq h
        rw [hpq]
        exact this⟩
  | .three i p j q k r, listed, a, w, inv, hB, h => by
    simp only [Plan.ok, Bool.and_eq_true, decide_eq_true_eq] at hB
    obtain ⟨⟨⟨⟨⟨⟨⟨⟨him, hjm⟩, hkm⟩, hpq⟩, hpr⟩, hr⟩, hp⟩, hq⟩, hrr⟩ := hB
    obtain ⟨hc, ⟨oi, h0, h1⟩, ⟨oj, h2, h3⟩, ⟨ok, h4, h5⟩⟩ := h
    refine ⟨hc, fun h1 => (by rw [hr] at h1; cases h1), fun x hx => ?_⟩
    have hx' := hx
    rw [hr] at hx
    rcases List.mem_cons.1 hx with rfl | hx
    · exact ⟨him, h1.wpOp h0 fun a' w' h => plan_any hsel hT p _ a' w' (inv.set hx' him) hp h⟩
    · rcases List.mem_cons.1 hx with rfl | hx
      · exact ⟨hjm, h3.wpOp h2 fun a' w' h => by
          have := plan_any hsel hT q _ a' w' (inv.set hx' hjm) hq h
          rw [hpq]
          exact this⟩
      · obtain rfl := List.mem_singleton.1 hx
        exact ⟨hkm, h5.wpOp h4 fun a' w' h => by
          have := plan_any hsel hT r _ a' w' (inv.set hx' hkm) hrr h
          rw [hpr]
          exact this⟩
/-- the first operations by a plan, the rest one behind the other -/
theorem wp_region_plan {id : Nat} {Q : Exit → Act → World → Prop} {a : Act} {w : World} {l : List Oper} (p : Plan) (C : World → Prop) (E : Act → World → Prop) (hm : P.follows .mixedOrders = true)
    (hB : (tailOkB l.toArray p.count && p.ok .any l.toArray (l.toArray.size - p.count) p.count (Array.replicate l.toArray.size false)) = true)
    (h : PlanW P l.toArray C E p a w.drew) (hE : ∀ a' w', E a' w' → wpList P l.toArray Q (l.drop p.count) a' w') : (Code.region id l.toArray true).wp P Q a w := by
  rw [Bool.and_eq_true] at hB
  obtain ⟨hok, hlex⟩ := hB
  obtain ⟨hsel, hnl, hT⟩ := tailOkB_spec hok
  have hdl : (l.drop p.count).length = l.toArray.size - p.count := by simp
  have H := plan_any (P := P) (md := .any) (m := p.count) (g := l.toArray.size - p.count) (Region.noSelect_spec hsel) hT p _ a w.drew (inv_new p.count) hlex h.go
  refine wp_region_any hm ?_
  have := wpAny_of_T (Q := Q) (g := l.toArray.size - p.count) (fun listed a' w' hL => by
    have := wpAny_of_seq (md := .any) (Q' := Q) (l.drop p.count) p.count listed a' w' (fun j => by simp [List.getElem?_drop]) (by rw [hdl]; exact hL.1) (hE _ _ hL.2)
    rwa [hdl] at this) _ _ _ _ H
  rw [show p.count + (l.toArray.size - p.count) = l.toArray.size by simp at hnl ⊢; omega] at this
  exact this
variable {E : Act → World → Prop} {p q : Plan} {o : Oper} {a : Act} {w : World}
theorem pl_val {k : Nat} (h0 : ops[k]? = some o) (hw : Region.wanted o (yielded ops a.tmps) = true) (h : ∃ v, (∀ w, C w → (execOp a.eval o).run P w = .ok (.value v) w) ∧ ∃ a', a.put o.dst v = a' ∧ PlanW P ops C E p a' w) : PlanW P ops C E (.tell k p) a w := by
  obtain ⟨v, hv, a', ha, h⟩ := h
  exact ⟨o, v, h0, .inl ⟨hw, hv⟩, by rw [ha]; exact h.go⟩
/-- one that is alone: what it does -/
structure AloneW (P : Program) (ops : Array Oper) (o : Oper) (K : Act → World → Prop) (a : Act) (w : World) : Prop where
  go : aloneP P ops o K a w
theorem pl_one {k : Nat} (h0 : ops[k]? = some o) (hc : C w) (h : AloneW P ops o (fun a' w' => PlanW P ops C E p a' w') a w) : PlanW P ops C E (.one k p) a w :=
  ⟨hc, o, h0, h.go.imp (fun h => ⟨h.1, Oper.wp_mono (fun _ _ h => h.go) h.2⟩) (fun h => ⟨h.1, h.2.go⟩)⟩
theorem aloneP.mono {o : Oper} {K K' : Act → World → Prop} {a : Act} {w : World} (hK : ∀ a w, K a w → K' a w) (h : aloneP P ops o K a w) : aloneP P ops o K' a w :=
  h.imp (fun h => ⟨h.1, Oper.wp_mono hK h.2⟩) (fun h => ⟨h.1, hK _ _ h.2⟩)
theorem al_val {K : Act → World → Prop} (hw : Region.wanted o (yielded ops a.tmps) = true) (h : ∃ v w', (execOp a.eval o).run P w = .ok (.value v) w' ∧ ∃ a', a.put o.dst v = a' ∧ K a' w') : AloneW P ops o K a w := by
  obtain ⟨v, w', hv, a', ha, h⟩ := h
  refine ⟨.inl ⟨hw, ?_⟩⟩
  unfold Oper.wp
  rw [hv]
  show K (a.put o.dst v) w'
  rw [ha]
  exact h
theorem al_wp {K : Act → World → Prop} (hw : Region.wanted o (yielded ops a.tmps) = true) (h : o.wp P a w K Qz) : AloneW P ops o K a w := ⟨.inl ⟨hw, h⟩⟩
/-- alone: a store -/
theorem al_skip {K : Act → World → Prop} (hw : Region.wanted o (yielded ops a.tmps) = true) (h : ∃ w', (execOp a.eval o).run P w = .ok .skip w' ∧ ∃ a', a.put o.dst undef = a' ∧ K a' w') : AloneW P ops o K a w := by
  obtain ⟨w', hv, a', ha, h⟩ := h
  refine ⟨.inl ⟨hw, ?_⟩⟩
  unfold Oper.wp
  rw [hv]
  show K (a.put o.dst undef) w'
  rw [ha]
  exact h
/-- alone: a call -/
theorem al_call {K : Act → World → Prop} {f : FuncId} {args : Array Value} {R : Ending → World → Prop} (hw : Region.wanted o (yielded ops a.tmps) = true) (hv : (execOp a.eval o).run P w = .ok (.enter f args) w) (hcall : Calls P f args w R)
    (h : ∀ e w', R e w' → ∃ v, e = .returned v ∧ ∃ a', a.put o.dst v = a' ∧ K a' w') : AloneW P ops o K a w := by
  refine ⟨.inl ⟨hw, ?_⟩⟩
  unfold Oper.wp
  rw [hv]
  refine hcall.mono fun e w' he => ?_
  obtain ⟨v, rfl, a', ha, h⟩ := h e w' he
  show K (a.put o.dst v) w'
  rw [ha]
  exact h
/-- a plan without forks: what is behind it is walked on -/
theorem wp_region_line {id : Nat} {Q : Exit → Act → World → Prop} {a : Act} {w : World} {l : List Oper} (p : Plan) (C : World → Prop) (hm : P.follows .mixedOrders = true)
    (hB : (tailOkB l.toArray p.count && p.ok .any l.toArray (l.toArray.size - p.count) p.count (Array.replicate l.toArray.size false)) = true)
    (h : PlanW P l.toArray C (fun a' w' => wpList P l.toArray Q (l.drop p.count) a' w') p a w.drew) : (Code.region id l.toArray true).wp P Q a w := wp_region_plan p C _ hm hB h (fun _ _ h => h)
theorem pl_end (hc : C w) (h : E a w) : PlanW P ops C E .done a w := ⟨hc, h⟩
end
end Go.Proofs.Yticfjnjeoikalaa
