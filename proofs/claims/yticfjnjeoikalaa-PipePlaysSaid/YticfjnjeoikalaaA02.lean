/- pipe.at, Drop. -/
import Derived.Test.YticfjnjeoikalaaA01
import Derived.WalkKit
import Derived.Laws.BitsAllLaws
import Derived.Deep.Quiet
import Derived.StillTail
import Derived.BigQuiet

namespace Go.Proofs.Yticfjnjeoikalaa
open Go.RowKit

set_option maxHeartbeats 400000 in
theorem pipeAt_out (base pb : Nat) (X : Nat → Prop) (A : Option Addr) (c : Nat) (ls : List PV) (cl : Bool) (w : World) (h : PipeAt w base pb X A c ls cl) (i : Int) (hi : i < 0 ∨ (ls.length : Int) ≤ i) :
    Calls Try.prog 27 #[.pointer (some ⟨pb, 0, none⟩), .int .i64 i] w fun e w' => e = .returned (.pointer none) ∧ w = w' := by
  by_cases h0 : i < 0
  · go_enter Try.func27, Try.ntmps27
    go_wp2_with fail
    go_ret
    exact ⟨rfl, rfl⟩
  · have h1 : (ls.length : Int) ≤ i := by omega
    clear hi
    go_enter Try.func27, Try.ntmps27
    go_wp2_with fail
    refine (pipeCount_any base pb X A c ls cl w h).mono ?_
    rintro e w1 ⟨rfl, rfl⟩
    go_wp2_with fail
    go_ret
    exact ⟨rfl, rfl⟩
set_option maxHeartbeats 400000 in
theorem pipeAt_in (base pb : Nat) (X : Nat → Prop) (g off : Nat) (c : Nat) (ls : List PV) (cl : Bool) (w : World) (h : PipeAt w base pb X (some ⟨g, off, none⟩) c ls cl) (i : Nat) (hi : i < ls.length) :
    Calls Try.prog 27 #[.pointer (some ⟨pb, 0, none⟩), .int .i64 i] w fun e w' => e = .returned (.pointer (if ls[i].b then none else some ⟨g, off + i * 3, none⟩)) ∧ w = w' := by
  have c0 := h.c0
  obtain ⟨g', off', e1, _, _, _, q0, q1, q2⟩ := h.par hi
  injection e1 with e1
  injection e1 with e1 e2
  subst e1 e2
  have hc := h.row.room
  have hcm := h.row.cap
  have hm : maxLen = 9223372036854775807 := rfl
  rw [hm] at hcm
  cases hb : ls[i].b
  · rw [hb] at q1
    go_enter Try.func27, Try.ntmps27
    go_wp2_with fail
    refine (pipeCount_any base pb X _ c ls cl w h).mono ?_
    rintro e w1 ⟨rfl, rfl⟩
    go_wp2_with fail
    go_ret
    exact ⟨rfl, rfl⟩
  · rw [hb] at q1
    go_enter Try.func27, Try.ntmps27
    go_wp2_with fail
    refine (pipeCount_any base pb X _ c ls cl w h).mono ?_
    rintro e w1 ⟨rfl, rfl⟩
    go_wp2_with fail
    go_ret
    exact ⟨rfl, rfl⟩
theorem flat_cut (ls : List PV) (k : Nat) : (ls.take k ++ ls.drop (k + 1)).flatMap PV.cells = (ls.flatMap PV.cells).take (k * 3) ++ (ls.flatMap PV.cells).drop ((k + 1) * 3) := by
  have h : ∀ (l : List PV) (k : Nat), (l.flatMap PV.cells).take (k * 3) = (l.take k).flatMap PV.cells ∧ (l.flatMap PV.cells).drop (k * 3) = (l.drop k).flatMap PV.cells := by
    intro l
    induction l with
    | nil => simp
    | cons p l ih =>
      intro k
      cases k with
      | zero => simp
      | succ k =>
        have e : (k + 1) * 3 = k * 3 + 1 + 1 + 1 := by omega
        obtain ⟨i1, i2⟩ := ih k
        rw [e]
        simp only [List.flatMap_cons, PV.cells, List.cons_append, List.nil_append, List.take_succ_cons, List.drop_succ_cons]
        exact ⟨by rw [i1], i2⟩
  rw [List.flatMap_append, (h ls k).1, (h ls (k + 1)).2]
/-- what Drop leaves -/
def dropI (S : List (List UInt8 × Bool × Bool)) (i : Int) : List (List UInt8 × Bool × Bool) × Bool :=
  if 0 ≤ i ∧ i < (S.length : Int) ∧ ((S.getD i.toNat ([], false, false)).2.1 = false) then (S.take i.toNat ++ S.drop (i.toNat + 1), true) else (S, false)

set_option maxHeartbeats 1000000 in
theorem pipeDrop_any (base pb : Nat) (X : Nat → Prop) (A : Option Addr) (c : Nat) (ls : List PV) (cl : Bool) (w : World) (h : PipeAt w base pb X A c ls cl) (i : Int) (hn : ls.length ≤ 1099511627776) (hbase : base ≤ w.heap.size) :
    Calls Try.prog 10 #[.pointer (some ⟨pb, 0, none⟩), .int .i64 i] w fun e w' => e = .returned (.bool (dropI (ls.map PV.s) i).2) ∧ PipeTo w base pb X A (dropI (ls.map PV.s) i).1 cl w' := by
  by_cases hi : i < 0 ∨ (ls.length : Int) ≤ i
  · have e1 : dropI (ls.map PV.s) i = (ls.map PV.s, false) := by unfold dropI; rw [if_neg]; rintro ⟨h1, h2, _⟩; simp at h2; omega
    rw [e1]
    go_enter Try.func10, Try.ntmps10
    go_wp2_with fail
    refine (pipeAt_out base pb X A c ls cl w h i hi).mono ?_
    rintro e w1 ⟨rfl, rfl⟩
    go_wp2_with fail
    go_ret
    exact ⟨rfl, h.to⟩
  · obtain ⟨k, rfl⟩ : ∃ k : Nat, i = k := ⟨i.toNat, by omega⟩
    have hk : k < ls.length := by omega
    obtain ⟨g, off, rfl, hgb, hgl, hgne, q0, q1, q2⟩ := h.par hk
    have hat := pipeAt_in base pb X g off c ls cl w h k hk
    have hsd : ((ls.map PV.s).getD k ([], false, false)).2.1 = ls[k].b := by rw [List.getD_eq_getElem?_getD, List.getElem?_map, List.getElem?_eq_getElem hk]; rfl
    cases hb : ls[k].b
    · have e1 : dropI (ls.map PV.s) (k : Int) = ((ls.map PV.s).take k ++ (ls.map PV.s).drop (k + 1), true) := by unfold dropI; rw [Int.toNat_natCast, if_pos ⟨by omega, by simpa using hk, by rw [hsd, hb]⟩]
      rw [e1]
      rw [hb] at hat
      have c0 := h.c0
      have f0 := h.f0
      have hc := h.row.room
      have hcm := h.row.cap
      have hm : maxLen = 9223372036854775807 := rfl
      rw [hm] at hcm
      have HAT := Lib.hid hat
      clear hat hsd hi e1
      have HR1 : Hid (Rd w (fun b => b = g) 3 (some ⟨g, off, none⟩) k ((ls.flatMap PV.cells).take (k * 3))) := (h.row.head (k := k) (by omega)).rd.mono (fun b _ hb => by simpa [ablk] using hb.symm)
      have ht := (h.row.tail (k := k + 1) (by omega)).rd
      have HO1 : Hid (∀ u ∈ (ls.flatMap PV.cells).take (k * 3), u.oneCell' = true) := fun u hu => par_one ls u (List.mem_of_mem_take hu)
      have HO2 : Hid (∀ u ∈ (ls.flatMap PV.cells).drop ((k + 1) * 3), u.oneCell' = true) := fun u hu => par_one ls u (List.mem_of_mem_drop hu)
      have hwr : IntKind.i64.wrap ((k : Int) + 1) = (k : Int) + 1 := IntWalk.i64_in _ (by omega)
      have b1 : (0 : Int) ≤ (k : Int) := by omega
      have b2 : (k : Int) ≤ (c : Int) := by omega
      have b3 : (k : Int) + 1 ≤ (ls.length : Int) := by omega
      have b4 : (0 : Int) ≤ (k : Int) + 1 := by omega
      have HL2 : Hid ((ls.take k ++ ls.drop (k + 1)).length = k + (ls.length - (k + 1))) := by show _ = _; rw [List.length_append, List.length_take, List.length_drop]; omega
      have HX2 : Hid ((ls.take k ++ ls.drop (k + 1)).flatMap PV.cells = (ls.flatMap PV.cells).take (k * 3) ++ (ls.flatMap PV.cells).drop ((k + 1) * 3)) := flat_cut ls k
      by_cases hck : c = k + 1
      · have hlk : ls.length = k + 1 := by omega
        clear ht
        subst hck
        have HD : Hid ((ls.flatMap PV.cells).drop ((k + 1) * 3) = []) := List.drop_of_length_le (by rw [flat_len (k := 3) (fun _ => rfl), hlk]; exact Nat.le_refl _)
        have HZ : Hid (k + (ls.length - (k + 1)) = k) := by show _ = _; omega
        have b5 : (k : Int) ≤ (k : Int) + 1 := by omega
        have b6 : (ls.length : Int) ≤ (k : Int) + 1 := by omega
        have hW : Below w.heap.size w ((w.alloc (.cells #[.slice (some ⟨g, off, none⟩) k k, .slice (some ⟨g, off, none⟩) 0 0] 41)).drew) := ((Below.refl _ _).alloc (Nat.le_refl _) _).drew
        have bW := (Blk.new w 41 #[.slice (some ⟨g, off, none⟩) k k, .slice (some ⟨g, off, none⟩) 0 0]).drew
        have g1 : ((w.alloc (.cells #[.slice (some ⟨g, off, none⟩) k k, .slice (some ⟨g, off, none⟩) 0 0] 41)).drew).cell? ⟨w.heap.size, 0, none⟩ = some (.slice (some ⟨g, off, none⟩) k k) := bW.cell 0
        have g2 : ((w.alloc (.cells #[.slice (some ⟨g, off, none⟩) k k, .slice (some ⟨g, off, none⟩) 0 0] 41)).drew).cell? ⟨w.heap.size, 1, none⟩ = some (.slice (some ⟨g, off, none⟩) 0 0) := bW.cell 1
        have hcc := concat2_any w.heap.size (some ⟨g, off, none⟩) (some ⟨g, off, none⟩) k k 0 0 ((ls.flatMap PV.cells).take (k * 3)) [] (fun b => b = g) ((w.alloc (.cells #[.slice (some ⟨g, off, none⟩) k k, .slice (some ⟨g, off, none⟩) 0 0] 41)).drew) g1 g2 (by simp [World.drew]) (HR1.out.below hW) ((Rd.nil (w := w) (Z := fun b => b = g) (size := 3) (A := some ⟨g, off, none⟩)).below hW) HO1.out (by simp) (by omega)
        have HCC := Lib.hid hcc
        clear g1 g2 hcc
        go_enter Try.func10, Try.ntmps10
        go_wp2_with fail
        refine HAT.out.mono ?_
        rintro e w1 ⟨rfl, rfl⟩
        go_wp2_with fail
        go_region_law
          (first
          | (go_simp; go_at_call 28; refine HCC.out.mono ?_; rintro e w2 ⟨A3, c3, rfl, hrow3, hb3⟩; have hk2 : Below w.heap.size w w2 := hW.trans (hb3.mono hW.size); have hp2 := h.below hk2; have c02 := hp2.c0; have f02 := hp2.f0; go_wp2_with fail))
        all_goals
          have hrow : Pars w2 base A3 c3 (ls.take k ++ ls.drop (k + 1)) := by
            unfold Pars
            rw [HL2.out, HX2.out]
            have h3 := hrow3.rebase (base' := base) (fun g' hg' => Nat.le_trans (Nat.le_trans hbase hW.size) (hrow3.lt g' hg').1)
            rw [HD.out, HZ.out]
            exact h3
          have hpt := PipeTo.stored (w2 := w2) h hW hrow ⟨hb3.os, hb3.tape, hb3.output, hb3.size, fun k hk _ => hb3.block k hk⟩ (fun g' hg' => .inr (hrow3.lt g' hg').1) (fun p hp => ?_) (fun p hp => ?_)
          · rw [HL2.out, HZ.out, List.map_append, List.map_take, List.map_drop] at hpt
            go_wp2_with fail
            go_ret
            exact ⟨rfl, hpt⟩
          · refine BV.ok.below (w := w) ?_ hW
            rcases List.mem_append.1 hp with hp | hp
            · exact h.ok p (List.mem_of_mem_take hp)
            · exact h.ok p (List.mem_of_mem_drop hp)
          · rcases List.mem_append.1 hp with hp | hp
            · exact h.full p (List.mem_of_mem_take hp)
            · exact h.full p (List.mem_of_mem_drop hp)
      · rw [if_neg hck] at ht
        have HR2 : Hid (Rd w (fun b => b = g) 3 (some ⟨g, off + (k + 1) * 3, none⟩) (ls.length - (k + 1)) ((ls.flatMap PV.cells).drop ((k + 1) * 3))) := by
          rw [Option.map_some, add_none] at ht
          exact ht.mono (fun b _ hb => by simpa [ablk, hck] using hb.symm)
        clear ht
        have b7 : ¬ c - (k + 1) = 0 := by omega
        have hW : Below w.heap.size w ((w.alloc (.cells #[.slice (some ⟨g, off, none⟩) k k, .slice (some ⟨g, off + (k + 1) * 3, none⟩) (ls.length - (k + 1)) (c - (k + 1))] 41)).drew) := ((Below.refl _ _).alloc (Nat.le_refl _) _).drew
        have bW := (Blk.new w 41 #[.slice (some ⟨g, off, none⟩) k k, .slice (some ⟨g, off + (k + 1) * 3, none⟩) (ls.length - (k + 1)) (c - (k + 1))]).drew
        have g1 : ((w.alloc (.cells #[.slice (some ⟨g, off, none⟩) k k, .slice (some ⟨g, off + (k + 1) * 3, none⟩) (ls.length - (k + 1)) (c - (k + 1))] 41)).drew).cell? ⟨w.heap.size, 0, none⟩ = some (.slice (some ⟨g, off, none⟩) k k) := bW.cell 0
        have g2 : ((w.alloc (.cells #[.slice (some ⟨g, off, none⟩) k k, .slice (some ⟨g, off + (k + 1) * 3, none⟩) (ls.length - (k + 1)) (c - (k + 1))] 41)).drew).cell? ⟨w.heap.size, 1, none⟩ = some (.slice (some ⟨g, off + (k + 1) * 3, none⟩) (ls.length - (k + 1)) (c - (k + 1))) := bW.cell 1
        have hcc := concat2_any w.heap.size (some ⟨g, off, none⟩) (some ⟨g, off + (k + 1) * 3, none⟩) k k (ls.length - (k + 1)) (c - (k + 1)) ((ls.flatMap PV.cells).take (k * 3)) ((ls.flatMap PV.cells).drop ((k + 1) * 3)) (fun b => b = g) ((w.alloc (.cells #[.slice (some ⟨g, off, none⟩) k k, .slice (some ⟨g, off + (k + 1) * 3, none⟩) (ls.length - (k + 1)) (c - (k + 1))] 41)).drew) g1 g2 (by simp [World.drew]) (HR1.out.below hW) (HR2.out.below hW) HO1.out HO2.out (by omega)
        have HCC := Lib.hid hcc
        clear g1 g2 hcc
        go_enter Try.func10, Try.ntmps10
        go_wp2_with fail
        refine HAT.out.mono ?_
        rintro e w1 ⟨rfl, rfl⟩
        go_wp2_with fail
        go_region_law
          (first
          | (go_simp; go_at_call 28; refine HCC.out.mono ?_; rintro e w2 ⟨A3, c3, rfl, hrow3, hb3⟩; have hk2 : Below w.heap.size w w2 := hW.trans (hb3.mono hW.size); have hp2 := h.below hk2; have c02 := hp2.c0; have f02 := hp2.f0; go_wp2_with fail))
        all_goals
          have hrow : Pars w2 base A3 c3 (ls.take k ++ ls.drop (k + 1)) := by
            unfold Pars
            rw [HL2.out, HX2.out]
            have h3 := hrow3.rebase (base' := base) (fun g' hg' => Nat.le_trans (Nat.le_trans hbase hW.size) (hrow3.lt g' hg').1)
            exact h3
          have hpt := PipeTo.stored (w2 := w2) h hW hrow ⟨hb3.os, hb3.tape, hb3.output, hb3.size, fun k hk _ => hb3.block k hk⟩ (fun g' hg' => .inr (hrow3.lt g' hg').1) (fun p hp => ?_) (fun p hp => ?_)
          · rw [HL2.out, List.map_append, List.map_take, List.map_drop] at hpt
            go_wp2_with fail
            go_ret
            exact ⟨rfl, hpt⟩
          · refine BV.ok.below (w := w) ?_ hW
            rcases List.mem_append.1 hp with hp | hp
            · exact h.ok p (List.mem_of_mem_take hp)
            · exact h.ok p (List.mem_of_mem_drop hp)
          · rcases List.mem_append.1 hp with hp | hp
            · exact h.full p (List.mem_of_mem_take hp)
            · exact h.full p (List.mem_of_mem_drop hp)
    · have e1 : dropI (ls.map PV.s) (k : Int) = (ls.map PV.s, false) := by unfold dropI; rw [if_neg]; rintro ⟨_, _, h3⟩; rw [Int.toNat_natCast, hsd, hb] at h3; cases h3
      rw [e1]
      rw [hb] at hat
      have HAT := Lib.hid hat
      clear hat hsd hi e1
      go_enter Try.func10, Try.ntmps10
      go_wp2_with fail
      refine HAT.out.mono ?_
      rintro e w1 ⟨rfl, rfl⟩
      go_wp2_with fail
      go_ret
      exact ⟨rfl, h.to⟩
end Go.Proofs.Yticfjnjeoikalaa

/- bytes.Clone. -/
namespace Go.Proofs.Yticfjnjeoikalaa
open Go.RowKit

theorem clone_any (A : Option Addr) (c : Nat) (l : List UInt8) (Z : Nat → Prop) (w : World) (h : By w Z A l) (hlen : l.length ≤ 140737488355328) :
    Calls Try.prog 26 #[.slice A l.length c] w fun e w' => ∃ (A' : Option Addr) (c' : Nat) (l' : List UInt8), e = .returned (.slice A' l'.length c') ∧ Hid (l' = l) ∧ OwB w' w.heap.size (.slice A' l'.length c') l' ∧ Below w.heap.size w w' := by
  rcases A with _ | a
  · have hl : l = [] := by
      rcases l with _ | ⟨x, l⟩
      · rfl
      · obtain ⟨b, off, e, _⟩ := h.2 (by simp); cases e
    subst hl
    refine (Try.bytes_Clone_nil 0 c w).mono ?_
    rintro e w' ⟨rfl, rfl⟩
    exact ⟨none, 0, [], rfl, rfl, OwB.nil _ _, Below.refl _ _⟩
  · refine (Try.bytes_Clone_at a l.length c (l.map fun x => (x.toNat : Int)) w (by simp) hlen ?_).mono ?_
    · intro i hi
      have hg : (l.map bv)[i]? = some (bv l[i]) := by rw [List.getElem?_map, List.getElem?_eq_getElem hi]; rfl
      obtain ⟨b, off, e, _, _, hc⟩ := Rd.atj h hg
      injection e with e
      subst e
      rw [add_none, hc, List.getD_eq_getElem?_getD, List.getElem?_map, List.getElem?_eq_getElem hi]
      rfl
    · rintro e w' ⟨v, rfl, h1, _, hb⟩
      have ho : OwB w' w.heap.size v l := by
        unfold OwB
        have e2 : (l.map fun x => (x.toNat : Int)).map (Value.int .u8) = l.map bv := by simp [bv, Function.comp_def]
        rw [← e2]
        exact h1
      obtain ⟨A', c', rfl, _⟩ := ho.form
      exact ⟨A', c', l, rfl, rfl, ho, hb⟩

theorem own_ablk {w : World} {base : Nat} {A : Option Addr} {n c : Nat} {l : List UInt8} (h : OwB w base (.slice A n c) l) : ∀ b, ablk A = some b → base ≤ b ∧ b < w.heap.size := by
  intro b hb
  rcases A with _ | a
  · cases hb
  · exact h.lt b (by simpa [ablk, Value.ownBlock] using hb)

end Go.Proofs.Yticfjnjeoikalaa

/- pipe.Take. -/
namespace Go.Proofs.Yticfjnjeoikalaa
open Go.RowKit

/-- what is left behind so many bytes -/
def dropS : List (List UInt8 × Bool × Bool) → Nat → List (List UInt8 × Bool × Bool)
  | [], _ => []
  | (l, b, d) :: xs, m => if m = 0 then (l, b, d) :: xs else if m < l.length then (l.drop m, true, d) :: xs else dropS xs (m - l.length)
theorem dropS_zero (S : List (List UInt8 × Bool × Bool)) : dropS S 0 = S := by
  rcases S with _ | ⟨⟨l, b, d⟩, xs⟩
  · rfl
  · rw [dropS, if_pos rfl]
theorem dropS_part {l : List UInt8} {b d : Bool} {xs : List (List UInt8 × Bool × Bool)} {m : Nat} (h0 : 0 < m) (h : m < l.length) : dropS ((l, b, d) :: xs) m = (l.drop m, true, d) :: xs := by rw [dropS, if_neg (by omega), if_pos h]
theorem dropS_all {l : List UInt8} {b d : Bool} {xs : List (List UInt8 × Bool × Bool)} {m : Nat} (h0 : 0 < m) (h : l.length ≤ m) : dropS ((l, b, d) :: xs) m = dropS xs (m - l.length) := by rw [dropS, if_neg (by omega), if_neg (by omega)]
theorem wpList_append_byn {w : World} {ops : Array Oper} {rest : List Oper} {o : Oper} {a : Act} {Q : Exit → Act → World → Prop} (hgd : o.guard = none) (s x : Operand)
    (ho : o.op = .call { callee := .builtin .append, args := #[s, x], argTypes := #[31, 31] })
    {base : Nat} {v : Value} {l m : List UInt8} {Z : Nat → Prop} {A : Option Addr} {c n : Nat} (hn : n = m.length) (hs : a.eval s = v) (hown : OwB w base v l) (hx : a.eval x = .slice A n c) (hr : Rd w Z 1 A n (m.map bv))
    (hsum : l.length + n ≤ 140737488355328) (hbase : base ≤ w.heap.size)
    (h : ∀ (L : List UInt8) (A' : Option Addr) (c' : Nat) (w' : World), Hid (L = l ++ m) → OwB w' base (.slice A' L.length c') L → w.grownBy w' v.ownBlock → ((Value.slice A' L.length c').ownBlock = v.ownBlock ∨ (Value.slice A' L.length c').ownBlock = some w.heap.size) → wpList Try.prog ops Q rest (a.put o.dst (.slice A' L.length c')) w') : wpList Try.prog ops Q (o :: rest) a w := by
  subst hn
  exact wpList_append_by hgd s x ho hs hown hx hr hsum hbase h
def lenOf : Value → Nat | .slice _ n _ => n | _ => 0

theorem PipeAt.of {w : World} {base pb B c : Nat} {X : Nat → Prop} {A A0 : Option Addr} {ls : List PV} {cl : Bool} (blk : Blk w pb 43 #[.slice A ls.length c, .bool cl]) (row : Pars w base A c ls)
    (ok : ∀ p ∈ ls, p.x.ok w (fun b => b < B ∧ b ≠ pb ∧ ablk A0 ≠ some b ∧ ¬ X b)) (hA : ∀ g, ablk A = some g → ablk A0 = some g) (full : ∀ p ∈ ls, 0 < p.x.l.length) : PipeAt w base pb X A c ls cl :=
  ⟨blk, row, fun p hp => (ok p hp).mono (fun b _ hz => ⟨hz.2.1, fun e => hz.2.2.1 (hA b e), hz.2.2.2⟩), full⟩
/-- what the rounds of Take keep -/
def tkRel (w : World) (base pb : Nat) (X : Nat → Prop) (A : Option Addr) (S : List (List UInt8 × Bool × Bool)) (cl : Bool) (n : Nat) (ov : Value) (wr : World) : Prop :=
  ∃ (L : List UInt8) (A2 : Option Addr) (c2 : Nat) (Ap : Option Addr) (cp : Nat) (lp : List PV), ov = .slice A2 L.length c2 ∧ OwB wr w.heap.size (.slice A2 L.length c2) L ∧ Blk wr pb 43 #[.slice Ap lp.length cp, .bool cl] ∧ Pars wr base Ap cp lp ∧
    (∀ p ∈ lp, p.x.ok wr (fun b => b < w.heap.size ∧ b ≠ pb ∧ ablk A ≠ some b ∧ ¬ X b)) ∧ (∀ p ∈ lp, 0 < p.x.l.length) ∧
    Fr (fun k => k = pb ∨ ablk A = some k) w wr ∧ (∀ g, ablk Ap = some g → ablk A = some g) ∧ L.length ≤ n ∧ Hid (flatP S = L ++ flatP (lp.map PV.s)) ∧ Hid (dropS S n = dropS (lp.map PV.s) (n - L.length))

set_option maxRecDepth 100000 in
set_option maxHeartbeats 4000000 in
theorem pipeTake_any (base pb : Nat) (X : Nat → Prop) (A : Option Addr) (c : Nat) (ls : List PV) (cl : Bool) (w : World) (h : PipeAt w base pb X A c ls cl) (i : Int) (hi : -9223372036854775808 ≤ i ∧ i < 9223372036854775808) (hb : (flatP (ls.map PV.s)).length ≤ 70368744177664) (_hbase : base ≤ w.heap.size) :
    Calls Try.prog 11 #[.pointer (some ⟨pb, 0, none⟩), .int .i64 i] w fun e w' => ∃ (A' : Option Addr) (c' : Nat) (l' : List UInt8), e = .returned (.slice A' l'.length c') ∧ Hid (l' = (flatP (ls.map PV.s)).take i.toNat) ∧ OwB w' w.heap.size (.slice A' l'.length c') l' ∧ PipeTo w base pb X A (dropS (ls.map PV.s) i.toNat) cl w' := by
  go_enter Try.func11, Try.ntmps11
  go_wp2_with fail
  go_loopw [4] (fun ov wr => tkRel w base pb X A (ls.map PV.s) cl i.toNat ov wr) (fun ov _ => i.toNat - lenOf ov)
  case atStart => exact ⟨[], none, 0, A, c, ls, rfl, OwB.nil _ _, h.blk, h.row, fun p hp => (h.ok p hp).mono (fun b hb hz => ⟨hb, hz⟩), h.full, Fr.refl _ _, fun _ h => h, Nat.zero_le _, by show _ = _; simp, by show _ = _; simp⟩
  case round =>
    obtain ⟨L, A2, c2, Ap, cp, lp, rfl, hown, hbl, hrw, hok, hfl, hfr, hAp, hLn, hF, hD⟩ := hrel
    have hp := PipeAt.of hbl hrw hok hAp hfl
    clear hbl hrw hfl
    by_cases hgo : (L.length : Int) < i ∧ 0 < lp.length
    · obtain ⟨hlt, hlp⟩ := hgo
      rcases lp with _ | ⟨p, lp⟩
      · simp at hlp
      obtain ⟨g, off, rfl, hgb, hgl, hgne, q0, q1, q2⟩ := hp.par (i := 0) (by simp)
      obtain ⟨⟨xA, xc, xl⟩, xb, xd⟩ := p
      have hxok := hp.ok _ List.mem_cons_self
      have hxf := hp.full _ List.mem_cons_self
      obtain ⟨hxy, hxc, hxm⟩ := hxok
      simp only [List.getElem_cons_zero, Nat.zero_mul, Nat.add_zero] at q0 q1 q2
      dsimp only at hxf hxy hxc hxm
      obtain ⟨m, hm⟩ : ∃ m : Nat, i.toNat = L.length + m := ⟨i.toNat - L.length, by omega⟩
      have hw1 : IntKind.i64.wrap (i - (L.length : Int)) = (m : Int) := by rw [show i - (L.length : Int) = (m : Int) by omega]; exact IntWalk.i64_in _ (by omega)
      have c0 := hp.c0
      have f0 := hp.f0
      have f1 := hp.row.frozen off
      have f2 := hp.row.frozen (off + 1)
      have hroom := hp.row.room
      have hL0 : (L.length : Int) ≥ 0 := by omega
      have hLw : ∀ b, ablk A2 = some b → w.heap.size ≤ b ∧ b < wr.heap.size := own_ablk hown
      have hsz := hfr.size
      have hgw : g < w.heap.size := (h.row.lt g (hAp g rfl)).2
      have hpbw := h.blk.lt
      have hcpm := hp.row.cap
      have hmx : maxLen = 9223372036854775807 := rfl
      rw [hmx] at hcpm hxm
      have hLx : L.length + xl.length ≤ 140737488355328 := by
        have e1 := congrArg List.length hF.out
        rw [List.length_append] at e1
        have e2 : xl.length ≤ (flatP ((⟨⟨xA, xc, xl⟩, xb, xd⟩ :: lp : List PV).map PV.s)).length := by unfold flatP; rw [List.map_cons, List.flatMap_cons, List.length_append]; exact Nat.le_add_right _ _
        omega
      by_cases hk : xl.length ≤ m
      · have hmin : min (m : Int) (xl.length : Int) = (xl.length : Int) := by omega
        go_wp2_with (at_builtin; refine wpList_append_byn rfl (.tmp 38) (.tmp 44) rfl (m := xl) (n := xl.length) rfl (v := .slice A2 L.length c2) rfl hown rfl hxy (by omega) hsz ?_; intro L3 A3 c3 w3 hL3 hown3 hg3 hat3; have f3 : Fr (fun k => ablk A2 = some k) wr w3 := Fr.of_grown hg3 (fun k _ e => by rcases A2 with _ | a2; cases e; exact e); have hok3 := fun p hp' => (hok p hp').fr f3 (fun b _ hz e => by have := (hLw b e).1; have := hz.1; omega); have hp3 := PipeAt.of (hp.blk.fr f3 (fun e => by have := hLw _ e; omega)) (hp.row.fr f3 (fun g' e1 e2 => by have := hLw _ e2; injection e1 with e1; have e1' : g = g' := e1; omega)) hok3 hAp hp.full; obtain ⟨g', off', e9, _, _, _, q3, q4, q5⟩ := hp3.par (i := 0) (by simp); injection e9 with e9; injection e9 with e9 e10; subst e9 e10; simp only [List.getElem_cons_zero, Nat.zero_mul, Nat.add_zero] at q3 q4; have f4 := hp3.row.frozen off; have f5 := hp3.row.frozen (off + 1); have c3' := hp3.c0; have f6 := hp3.f0)
        go_region_law (fail)
        all_goals
          have rowV : Row (((w3.setCell ⟨g, off, none⟩ (.slice xA 0 0)).setCell ⟨g, off + 1, none⟩ (.bool true)).drew) base 56 3 (some ⟨g, off, none⟩) (lp.length + 1) cp (.slice xA 0 0 :: .bool true :: .bool xd :: lp.flatMap PV.cells) := ((hp3.row.put 0 (.slice xA 0 0)).put 1 (.bool true)).drew
          have bV : Blk (((w3.setCell ⟨g, off, none⟩ (.slice xA 0 0)).setCell ⟨g, off + 1, none⟩ (.bool true)).drew) pb 43 #[.slice (some ⟨g, off, none⟩) (lp.length + 1) cp, .bool cl] := ((hp3.blk.far (p := ⟨g, off, none⟩) (by simp; omega) _).far (p := ⟨g, off + 1, none⟩) (by simp; omega) _).drew
          have fV : Fr (fun k => k = g) w3 (((w3.setCell ⟨g, off, none⟩ (.slice xA 0 0)).setCell ⟨g, off + 1, none⟩ (.bool true)).drew) := (((Fr.refl (fun k => k = g) w3).setAt g off rfl _).setAt g (off + 1) rfl _).drew
          generalize ((w3.setCell ⟨g, off, none⟩ (.slice xA 0 0)).setCell ⟨g, off + 1, none⟩ (.bool true)).drew = V at *
          have oV : OwB V w.heap.size (.slice A3 L3.length c3) L3 := hown3.fr fV (fun k hk e => by have := (hown3.lt k hk).1; omega)
          have okV : ∀ p ∈ lp, p.x.ok V (fun b => b < w.heap.size ∧ b ≠ pb ∧ ablk A ≠ some b ∧ ¬ X b) := fun p hp' => (hok3 p (List.mem_cons_of_mem _ hp')).fr fV (fun b _ hz e => hz.2.2.1 (by rw [e]; exact hAp g rfl))
          have fwV : Fr (fun k => k = pb ∨ ablk A = some k) w V := (hfr.trans f3 (fun x hx e => by have := (hLw x e).1; omega)).trans fV (fun x hx e => .inr (by rw [e]; exact hAp g rfl))
          have v0 : V.cell? ⟨g, off, none⟩ = some (.slice xA 0 0) := rowV.cell (j := 0) rfl
          have vp : V.cell? ⟨pb, 0, none⟩ = some (.slice (some ⟨g, off, none⟩) (lp.length + 1) cp) := bV.cell 0
          have vf := bV.frozen 0
          clear q3 q4 q5 f4 f5 c3' f6
          by_cases hcp : cp = 1
          · have hcpb : (cp : Int) = 1 := by omega
            go_wp2_with fail
            have rowT := rowV.tail (k := 1) (by omega)
            rw [if_pos hcp] at rowT
            rw [show lp.length + 1 - 1 = lp.length by omega, show cp - 1 = 0 by omega, show (Value.slice xA 0 0 :: Value.bool true :: Value.bool xd :: lp.flatMap PV.cells).drop (1 * 3) = lp.flatMap PV.cells from rfl] at rowT
            have fT : Fr (fun k => k = pb) V (V.setCell ⟨pb, 0, none⟩ (.slice (some ⟨g, off, none⟩) lp.length 0)) := (Fr.refl (fun k => k = pb) V).setAt pb 0 rfl _
            have bT : Blk (V.setCell ⟨pb, 0, none⟩ (.slice (some ⟨g, off, none⟩) lp.length 0)) pb 43 #[.slice (some ⟨g, off, none⟩) lp.length 0, .bool cl] := by simpa using bV.set_ 0 (.slice (some ⟨g, off, none⟩) lp.length 0)
            have rT : Pars (V.setCell ⟨pb, 0, none⟩ (.slice (some ⟨g, off, none⟩) lp.length 0)) base (some ⟨g, off, none⟩) 0 lp := Row.fr rowT fT (fun k hk e => hgne (by injection hk with hk; have hk' : g = k := hk; omega))
            go_roundw
            case rel =>
              refine ⟨L3, A3, c3, _, 0, lp, rfl, oV.fr fT (fun k hk e => by have := (oV.lt k hk).1; omega), bT, rT, fun p hp' => (okV p hp').fr fT (fun b _ hz e => hz.2.1 e), fun p hp' => hp3.full p (List.mem_cons_of_mem _ hp'), fwV.trans fT (fun x hx e => .inl e), fun k hk => hAp k hk, by rw [hL3.out, List.length_append]; omega, ?_, ?_⟩
              · show _ = _
                rw [hF.out, hL3.out, List.append_assoc]; rfl
              · show _ = _
                rw [hD.out, hm, Nat.add_sub_cancel_left, List.map_cons, show PV.s ⟨⟨xA, xc, xl⟩, xb, xd⟩ = (xl, xb, xd) from rfl, dropS_all (by omega) hk, hL3.out, List.length_append, show L.length + m - (L.length + xl.length) = m - xl.length by omega]
            case measure => simp only [lenOf]; rw [hL3.out, List.length_append]; omega
          · have hcp1 : ¬ cp - 1 = 0 := by omega
            go_wp2_with fail
            have rowT := rowV.tail (k := 1) (by omega)
            rw [if_neg hcp] at rowT
            rw [Option.map_some, add_none, show off + 1 * 3 = off + 3 by omega] at rowT
            rw [show lp.length + 1 - 1 = lp.length by omega, show (Value.slice xA 0 0 :: Value.bool true :: Value.bool xd :: lp.flatMap PV.cells).drop (1 * 3) = lp.flatMap PV.cells from rfl] at rowT
            have fT : Fr (fun k => k = pb) V (V.setCell ⟨pb, 0, none⟩ (.slice (some ⟨g, off + 3, none⟩) lp.length (cp - 1))) := (Fr.refl (fun k => k = pb) V).setAt pb 0 rfl _
            have bT : Blk (V.setCell ⟨pb, 0, none⟩ (.slice (some ⟨g, off + 3, none⟩) lp.length (cp - 1))) pb 43 #[.slice (some ⟨g, off + 3, none⟩) lp.length (cp - 1), .bool cl] := by simpa using bV.set_ 0 (.slice (some ⟨g, off + 3, none⟩) lp.length (cp - 1))
            have rT : Pars (V.setCell ⟨pb, 0, none⟩ (.slice (some ⟨g, off + 3, none⟩) lp.length (cp - 1))) base (some ⟨g, off + 3, none⟩) (cp - 1) lp := Row.fr rowT fT (fun k hk e => hgne (by injection hk with hk; have hk' : g = k := hk; omega))
            go_roundw
            case rel =>
              refine ⟨L3, A3, c3, _, (cp - 1), lp, rfl, oV.fr fT (fun k hk e => by have := (oV.lt k hk).1; omega), bT, rT, fun p hp' => (okV p hp').fr fT (fun b _ hz e => hz.2.1 e), fun p hp' => hp3.full p (List.mem_cons_of_mem _ hp'), fwV.trans fT (fun x hx e => .inl e), fun k hk => hAp k hk, by rw [hL3.out, List.length_append]; omega, ?_, ?_⟩
              · show _ = _
                rw [hF.out, hL3.out, List.append_assoc]; rfl
              · show _ = _
                rw [hD.out, hm, Nat.add_sub_cancel_left, List.map_cons, show PV.s ⟨⟨xA, xc, xl⟩, xb, xd⟩ = (xl, xb, xd) from rfl, dropS_all (by omega) hk, hL3.out, List.length_append, show L.length + m - (L.length + xl.length) = m - xl.length by omega]
            case measure => simp only [lenOf]; rw [hL3.out, List.length_append]; omega
      · have hmin : min (m : Int) (xl.length : Int) = (m : Int) := by omega
        obtain ⟨bx, ox, rfl, _, _⟩ := hxy.some_of (by omega)
        have i1 : (0 : Int) ≤ (m : Int) := by omega
        have i2 : (m : Int) ≤ (xl.length : Int) := by omega
        have i3 : (xl.length : Int) ≤ (xc : Int) := by omega
        have i4 : ¬ xl.length = m := by omega
        have hkl : m = (xl.take m).length := by rw [List.length_take]; omega
        have Hkl := Lib.hid hkl
        clear hkl
        have hDr := Rd.take hxy (k := m) (by omega)
        rw [Nat.mul_one, ← List.map_take] at hDr
        go_wp2_with (at_builtin; refine wpList_append_byn rfl (.tmp 38) (.tmp 44) rfl (m := (xl.take m)) (n := m) Hkl.out (v := .slice A2 L.length c2) rfl hown rfl hDr (by omega) hsz ?_; intro L3 A3 c3 w3 hL3 hown3 hg3 hat3; have f3 : Fr (fun k => ablk A2 = some k) wr w3 := Fr.of_grown hg3 (fun k _ e => by rcases A2 with _ | a2; cases e; exact e); have hok3 := fun p hp' => (hok p hp').fr f3 (fun b _ hz e => by have := (hLw b e).1; have := hz.1; omega); have hp3 := PipeAt.of (hp.blk.fr f3 (fun e => by have := hLw _ e; omega)) (hp.row.fr f3 (fun g' e1 e2 => by have := hLw _ e2; injection e1 with e1; have e1' : g = g' := e1; omega)) hok3 hAp hp.full; obtain ⟨g', off', e9, _, _, _, q3, q4, q5⟩ := hp3.par (i := 0) (by simp); injection e9 with e9; injection e9 with e9 e10; subst e9 e10; simp only [List.getElem_cons_zero, Nat.zero_mul, Nat.add_zero] at q3 q4; have f4 := hp3.row.frozen off; have f5 := hp3.row.frozen (off + 1); have c3' := hp3.c0; have f6 := hp3.f0)
        go_region_law (fail)
        all_goals
          have rowV : Row (((w3.setCell ⟨g, off, none⟩ (.slice (some ⟨bx, ox + m, none⟩) (xl.length - m) (xl.length - m))).setCell ⟨g, off + 1, none⟩ (.bool true)).drew) base 56 3 (some ⟨g, off, none⟩) (lp.length + 1) cp (.slice (some ⟨bx, ox + m, none⟩) (xl.length - m) (xl.length - m) :: .bool true :: .bool xd :: lp.flatMap PV.cells) := ((hp3.row.put 0 (.slice (some ⟨bx, ox + m, none⟩) (xl.length - m) (xl.length - m))).put 1 (.bool true)).drew
          have bV : Blk (((w3.setCell ⟨g, off, none⟩ (.slice (some ⟨bx, ox + m, none⟩) (xl.length - m) (xl.length - m))).setCell ⟨g, off + 1, none⟩ (.bool true)).drew) pb 43 #[.slice (some ⟨g, off, none⟩) (lp.length + 1) cp, .bool cl] := ((hp3.blk.far (p := ⟨g, off, none⟩) (by simp; omega) _).far (p := ⟨g, off + 1, none⟩) (by simp; omega) _).drew
          have fV : Fr (fun k => k = g) w3 (((w3.setCell ⟨g, off, none⟩ (.slice (some ⟨bx, ox + m, none⟩) (xl.length - m) (xl.length - m))).setCell ⟨g, off + 1, none⟩ (.bool true)).drew) := (((Fr.refl (fun k => k = g) w3).setAt g off rfl _).setAt g (off + 1) rfl _).drew
          generalize ((w3.setCell ⟨g, off, none⟩ (.slice (some ⟨bx, ox + m, none⟩) (xl.length - m) (xl.length - m))).setCell ⟨g, off + 1, none⟩ (.bool true)).drew = V at *
          have oV : OwB V w.heap.size (.slice A3 L3.length c3) L3 := hown3.fr fV (fun k hk e => by have := (hown3.lt k hk).1; omega)
          have okV : ∀ p ∈ lp, p.x.ok V (fun b => b < w.heap.size ∧ b ≠ pb ∧ ablk A ≠ some b ∧ ¬ X b) := fun p hp' => (hok3 p (List.mem_cons_of_mem _ hp')).fr fV (fun b _ hz e => hz.2.2.1 (by rw [e]; exact hAp g rfl))
          have fwV : Fr (fun k => k = pb ∨ ablk A = some k) w V := (hfr.trans f3 (fun x hx e => by have := (hLw x e).1; omega)).trans fV (fun x hx e => .inr (by rw [e]; exact hAp g rfl))
          have v0 : V.cell? ⟨g, off, none⟩ = some (.slice (some ⟨bx, ox + m, none⟩) (xl.length - m) (xl.length - m)) := rowV.cell (j := 0) rfl
          have vp : V.cell? ⟨pb, 0, none⟩ = some (.slice (some ⟨g, off, none⟩) (lp.length + 1) cp) := bV.cell 0
          have vf := bV.frozen 0
          clear q3 q4 q5 f4 f5 c3' f6
          have hdl : (xl.drop m).length = xl.length - m := List.length_drop
          have okF : BV.ok V (fun b => b < w.heap.size ∧ b ≠ pb ∧ ablk A ≠ some b ∧ ¬ X b) ⟨some ⟨bx, ox + m, none⟩, xl.length - m, xl.drop m⟩ := by
            have h0 := ((hok3 _ List.mem_cons_self).fr fV (fun b _ hz e => hz.2.2.1 (by rw [e]; exact hAp g rfl))).1
            have h1 := Rd.drop h0 (k := m) (cap := xl.length) (by show m ≤ xl.length; omega) (Nat.le_refl _)
            rw [if_neg i4, Option.map_some, add_none, Nat.mul_one, ← List.map_drop] at h1
            refine ⟨?_, by show (xl.drop m).length ≤ xl.length - m; omega, by show xl.length - m ≤ maxLen; simp only [maxLen]; omega⟩
            unfold By
            rw [hdl]
            exact h1
          have Hdl := Lib.hid hdl
          have hL3l : L3.length = L.length + m := by rw [hL3.out, List.length_append, ← Hkl.out]
          have HL3 := Lib.hid hL3l
          clear hdl hL3l i4
          have i5 : ((xl.length - m : Nat) : Int) ≠ 0 := by omega
          have i6 : (((xl.length - m : Nat) : Int) == 0) = false := by rw [beq_eq_false_iff_ne]; exact i5
          go_wp2_with fail
          go_roundw
          case rel =>
            refine ⟨L3, A3, c3, _, cp, ⟨⟨some ⟨bx, ox + m, none⟩, xl.length - m, xl.drop m⟩, true, xd⟩ :: lp, rfl, oV, bV, ?_, ?_, ?_, fwV, fun k hk => hAp k hk, by rw [HL3.out]; omega, ?_, ?_⟩
            · show Row _ _ _ _ _ _ _ _
              simp only [List.length_cons, List.flatMap_cons, PV.cells, Hdl.out]
              exact rowV
            · intro p hp'
              rcases List.mem_cons.1 hp' with rfl | hp'
              · exact okF
              · exact okV p hp'
            · intro p hp'
              rcases List.mem_cons.1 hp' with rfl | hp'
              · show 0 < (xl.drop m).length
                rw [Hdl.out]; omega
              · exact hp3.full p (List.mem_cons_of_mem _ hp')
            · show _ = _
              rw [hF.out, hL3.out, List.append_assoc]
              congr 1
              show xl ++ _ = _
              unfold flatP
              rw [List.map_cons, List.flatMap_cons, ← List.append_assoc]
              show xl ++ _ = (xl.take m ++ xl.drop m) ++ _
              rw [List.take_append_drop]
              rfl
            · show _ = _
              rw [hD.out, hm, Nat.add_sub_cancel_left, List.map_cons, show PV.s ⟨⟨some ⟨bx, ox, none⟩, xc, xl⟩, xb, xd⟩ = (xl, xb, xd) from rfl, dropS_part (by omega) (by omega), HL3.out, Nat.sub_self, dropS_zero]
              rfl
          case measure => simp only [lenOf]; rw [HL3.out]; omega
    · have hend : L.length = i.toNat ∨ lp = [] := by
        by_cases h1 : (L.length : Int) < i
        · exact .inr (List.eq_nil_of_length_eq_zero (by omega))
        · exact .inl (by omega)
      have hres : Hid (L = (flatP (ls.map PV.s)).take i.toNat) := by
        show _ = _
        rw [hF.out]
        rcases hend with h1 | h1
        · rw [← h1, List.take_left]
        · subst h1
          rw [show flatP (([] : List PV).map PV.s) = [] from rfl, List.append_nil, List.take_of_length_le hLn]
      have hds : dropS (ls.map PV.s) i.toNat = lp.map PV.s := by
        rw [hD.out]
        rcases hend with h1 | h1
        · rw [h1, Nat.sub_self, dropS_zero]
        · subst h1; rfl
      have HDS := Lib.hid hds
      have c0 := hp.c0
      clear hds hend
      by_cases h1 : (L.length : Int) < i
      · have h2 : lp.length = 0 := by omega
        obtain rfl := List.eq_nil_of_length_eq_zero h2
        clear hgo h2
        go_wp2_with fail
        go_ret
        exact ⟨A2, c2, L, rfl, hres, hown, by rw [HDS.out]; exact ⟨⟨Ap, cp, [], hp, rfl, fun g hg => .inl (hAp g hg)⟩, hfr⟩⟩
      · clear hgo
        go_wp2_with fail
        go_ret
        exact ⟨A2, c2, L, rfl, hres, hown, by rw [HDS.out]; exact ⟨⟨Ap, cp, lp, hp, rfl, fun g hg => .inl (hAp g hg)⟩, hfr⟩⟩
end Go.Proofs.Yticfjnjeoikalaa

/- Bits that are turned in bytes: plain. No program. -/
namespace Go.Proofs.Yticfjnjeoikalaa

/-- with a bit turned -/
def turnB (l : List UInt8) (k : Nat) : List UInt8 := l.set (k / 8) (UInt8.ofNat ((l.getD (k / 8) 0).toNat ^^^ 2 ^ (k % 8)))
/-- so many bits of the mask looked at -/
def flipI (l : List UInt8) (bit mask : Nat) : Nat → List UInt8 × Bool
  | 0 => (l, false)
  | i + 1 => if mask / 2 ^ i % 2 = 1 ∧ bit + i < 8 * l.length then (turnB (flipI l bit mask i).1 (bit + i), true) else flipI l bit mask i
def flipB (l : List UInt8) (bit mask : Nat) : List UInt8 × Bool := flipI l bit mask 32
theorem turnB_len (l : List UInt8) (k : Nat) : (turnB l k).length = l.length := by simp [turnB]
theorem flipI_len (l : List UInt8) (bit mask : Nat) : ∀ i, (flipI l bit mask i).1.length = l.length
  | 0 => rfl
  | i + 1 => by
    unfold flipI
    split
    · rw [turnB_len, flipI_len l bit mask i]
    · exact flipI_len l bit mask i
theorem flipI_yes {l : List UInt8} {bit mask i : Nat} (h : mask / 2 ^ i % 2 = 1) (h2 : bit + i < 8 * l.length) : flipI l bit mask (i + 1) = (turnB (flipI l bit mask i).1 (bit + i), true) := by rw [flipI, if_pos ⟨h, h2⟩]
theorem flipI_no {l : List UInt8} {bit mask i : Nat} (h : ¬ (mask / 2 ^ i % 2 = 1 ∧ bit + i < 8 * l.length)) : flipI l bit mask (i + 1) = flipI l bit mask i := by rw [flipI, if_neg h]
theorem flipI_stop {l : List UInt8} {bit mask n : Nat} (h : 8 * l.length ≤ bit + n) : ∀ k, flipI l bit mask (n + k) = flipI l bit mask n
  | 0 => rfl
  | k + 1 => by
    rw [show n + (k + 1) = (n + k) + 1 by omega, flipI_no (by omega), flipI_stop h k]
theorem flip_min (l : List UInt8) (bit mask : Nat) (hb : bit < 8 * l.length) : flipI l bit mask (min 32 (8 * l.length - bit)) = flipB l bit mask := by
  unfold flipB
  rcases Nat.lt_or_ge (8 * l.length - bit) 32 with h | h
  · rw [Nat.min_eq_right (by omega)]
    have := flipI_stop (l := l) (bit := bit) (mask := mask) (n := 8 * l.length - bit) (by omega) (32 - (8 * l.length - bit))
    rw [show 8 * l.length - bit + (32 - (8 * l.length - bit)) = 32 by omega] at this
    exact this.symm
  · rw [Nat.min_eq_left h]
/-- a pipe's parcels, one damaged -/
def flipS (S : List (List UInt8 × Bool × Bool)) (i bit : Int) (mask : Nat) : List (List UInt8 × Bool × Bool) × Bool :=
  if i < 0 then (S, false)
  else match S[i.toNat]? with
    | none => (S, false)
    | some p => if p.2.1 = true ∨ p.2.2 = true ∨ bit < 0 ∨ 8 * (p.1.length : Int) ≤ bit then (S, false) else (S.set i.toNat ((flipB p.1 bit.toNat mask).1, false, (flipB p.1 bit.toNat mask).2), (flipB p.1 bit.toNat mask).2)
theorem xor_u8 (a : UInt8) (m : Nat) (hm : m < 256) : bits .xor .u8 (a.toNat : Int) (m : Int) = ((UInt8.ofNat (a.toNat ^^^ m)).toNat : Int) := by
  rw [u8_xor_nat _ _ a.toNat_lt hm, UInt8.toNat_ofNat', Nat.mod_eq_of_lt]
  exact Nat.xor_lt_two_pow (n := 8) a.toNat_lt hm
end Go.Proofs.Yticfjnjeoikalaa

/- A store into an owned row of bytes. -/
namespace Go.Proofs.Yticfjnjeoikalaa
open Go.RowKit

theorem OwB.cellAt {w : World} {base g c : Nat} {l : List UInt8} (h : OwB w base (.slice (some ⟨g, 0, none⟩) l.length c) l) {i : Nat} (hi : i < l.length) : w.cell? ⟨g, i, none⟩ = some (bv l[i]) := by
  have := World.ownsRow.cellAt h i (by omega)
  rw [this, List.getElem?_map, List.getElem?_eq_getElem hi]
  rfl
theorem OwB.frozenAt {w : World} {base g c : Nat} {l : List UInt8} (h : OwB w base (.slice (some ⟨g, 0, none⟩) l.length c) l) (i : Nat) : w.frozen? ⟨g, i, none⟩ = false := World.ownsRow.frozenAt h i
theorem OwB.put {w : World} {base g c : Nat} {l : List UInt8} (h : OwB w base (.slice (some ⟨g, 0, none⟩) l.length c) l) (i : Nat) (d : UInt8) : OwB (w.setCell ⟨g, i, none⟩ (bv d)) base (.slice (some ⟨g, 0, none⟩) (l.set i d).length c) (l.set i d) := by
  have := World.ownsRow.stored h i (bv d)
  unfold OwB
  rw [List.length_set, List.map_set]
  exact this.1
/-- a row that is not empty has a block -/
theorem OwB.block {w : World} {base c : Nat} {A : Option Addr} {l : List UInt8} (h : OwB w base (.slice A l.length c) l) (hl : 0 < l.length) : ∃ g, A = some ⟨g, 0, none⟩ ∧ base ≤ g ∧ g < w.heap.size := by
  obtain ⟨g, cap, hv, _, hlt⟩ := World.ownsRow.form h hl
  injection hv with hA
  exact ⟨g, hA, (h.lt g (by rw [hA]; rfl)).1, hlt⟩
/-- []byte{} -/
theorem OwB.lit0 (w : World) {base : Nat} (hb : base ≤ w.heap.size) : OwB (w.alloc (.cells #[] 5)) base (.slice (some ⟨w.heap.size, 0, none⟩) 0 0) [] := by
  have := World.ownsRow_lit (base := base) (e := 5) (size := 1) w #[] 0 hb (by simp [maxLen]) (by simp)
  exact this
end Go.Proofs.Yticfjnjeoikalaa

/- Drawn regions whose operations each yield ONE value and at most make memory: one walk in the order of the text, in worlds above the one at hand; the variable that is made behind them may be made at any time. No program. -/
namespace Go.Proofs.Yticfjnjeoikalaa
open Go.RowKit

section
variable {P : Program} {ops : Array Oper} {md : Region.Mode} {W : World}

/-- In state a, in every world above W, the operation yields v, and makes memory at most. -/
def YB (P : Program) (ops : Array Oper) (W : World) (o : Oper) (v : Value) (a : Act) : Prop :=
  (Region.wanted o (yielded ops a.tmps) = true ∧ ∀ w, Below W.heap.size W w → (execOp a.eval o).run P w = .ok (.value v) w ∨
    ∃ f args, (execOp a.eval o).run P w = .ok (.enter f args) w ∧ Calls P f args w fun e w' => e = .returned v ∧ Below w.heap.size w w') ∨
  (Region.wanted o (yielded ops a.tmps) = false ∧ v = undef)
theorem YB.of_same {o : Oper} {v : Value} {a a' : Act} (hy : YB P ops W o v a) (he : execOp a'.eval o = execOp a.eval o)
    (hw : Region.wanted o (yielded ops a'.tmps) = Region.wanted o (yielded ops a.tmps)) : YB P ops W o v a' := by
  unfold YB at *
  rw [he, hw]
  exact hy
theorem YB.wpOp {i : Nat} {o : Oper} {v : Value} {a : Act} {w : World} {K : Act → World → Prop} {Q : Exit → Act → World → Prop} (hi : ops[i]? = some o) (hy : YB P ops W o v a) (hw : Below W.heap.size W w)
    (hK : ∀ w', Below w.heap.size w w' → K (a.put o.dst v) w') : wpOp P ops Q i K a w := by
  unfold Go.wpOp
  simp only [hi]
  rcases hy with ⟨hwt, hv⟩ | ⟨hwt, rfl⟩
  · simp only [hwt, if_true]
    refine .inl ?_
    unfold Oper.wp
    rcases hv w hw with e | ⟨f, args, e, hc⟩
    · rw [e]
      exact hK w (Below.refl _ _)
    · rw [e]
      exact hc.mono fun e w' ⟨he, hb⟩ => by subst he; exact hK w' hb
  · simp only [hwt, Bool.false_eq_true, if_false]
    exact hK w (Below.refl _ _)

inductive DetB (P : Program) (md : Region.Mode) (ops : Array Oper) (W : World) (n : Nat) (E : Array Bool → Act → Prop) : Nat → Array Bool → Act → Prop
  | done {listed : Array Bool} {a : Act} : (∀ j ∈ Region.ready md ops listed, n ≤ j) → E listed a → DetB P md ops W n E 0 listed a
  | step {k i : Nat} {listed : Array Bool} {a : Act} {o : Oper} {v : Value} : ops[i]? = some o → i < n → HeadInv md ops n listed → i ∈ Region.ready md ops listed →
      (∀ j oj, ops[j]? = some oj → j ≠ i → listed.getD j true = false → (∀ e ∈ oj.after, Region.binds md e = true → e.on ≠ i) → o.apart ops oj = true) →
      YB P ops W o v a → DetB P md ops W n E k (listed.setIfInBounds i true) (a.put o.dst v) → DetB P md ops W n E (k + 1) listed a
def TailWaitsB (md : Region.Mode) (ops : Array Oper) (n : Nat) : Prop :=
  ∀ listed, HeadInv md ops n listed → ∀ i, i < n → listed.getD i true = false → ∀ t ∈ Region.ready md ops listed, t < n

theorem DetB.any {n : Nat} {E : Array Bool → Act → Prop} (hsel : ∀ (j : Nat) (o : Oper) cs b, ops[j]? = some o → o.op ≠ .select cs b) (hT : TailWaitsB md ops n) :
    ∀ {k : Nat} {listed : Array Bool} {a : Act}, DetB P md ops W n E (k + 1) listed a →
      Region.ready md ops listed ≠ [] ∧ HeadInv md ops n listed ∧ ∀ j ∈ Region.ready md ops listed, j < n ∧ ∃ o v, ops[j]? = some o ∧ YB P ops W o v a ∧ DetB P md ops W n E k (listed.setIfInBounds j true) (a.put o.dst v) := by
  intro k
  induction k with
  | zero =>
    intro listed a h
    cases h with
    | @step _ i _ _ o v ho hin inv hr hap hy hd =>
      refine ⟨fun h => (by rw [h] at hr; cases hr), inv, fun j hj => ⟨hT _ inv i hin (mem_ready.1 hr).1 j hj, ?_⟩⟩
      by_cases hji : j = i
      · subst hji; exact ⟨o, v, ho, hy, hd⟩
      · cases hd with
        | done hge _ => have h1 := hT _ inv i hin (mem_ready.1 hr).1 j hj; have h2 := hge j (ready_mono hj hji); omega
  | succ k ih =>
    intro listed a h
    cases h with
    | @step _ i _ _ o v ho hin inv hr hap hy hd =>
      refine ⟨fun h => (by rw [h] at hr; cases hr), inv, fun j hj => ⟨hT _ inv i hin (mem_ready.1 hr).1 j hj, ?_⟩⟩
      by_cases hji : j = i
      · subst hji; exact ⟨o, v, ho, hy, hd⟩
      · obtain ⟨_, _, h2⟩ := ih hd
        obtain ⟨_, oj, u, hoj, hyj, hdj⟩ := h2 j (ready_mono hj hji)
        obtain ⟨hjun, oj', hoj', hall⟩ := mem_ready.1 hj
        obtain rfl : oj' = oj := Option.some.inj (hoj'.symm.trans hoj)
        have hun := (mem_ready.1 hr).1
        have hnot : ∀ e ∈ oj'.after, Region.binds md e = true → e.on ≠ i := fun e he hb heq => by
          have h1 := hall e he hb
          rw [heq, getD_both hun] at h1
          cases h1
        obtain ⟨a1, a2, a3⟩ := Oper.apart_spec (hap j oj' hoj hji hjun hnot)
        have hyj' := hyj.of_same (a' := a) (execOp_put oj' (fun cs b => hsel j oj' cs b hoj) a o.dst v a1).symm (wanted_put oj' a o.dst v a1).symm
        have hyi' := hy.of_same (a' := a.put oj'.dst u) (execOp_put o (fun cs b => hsel i o cs b ho) a oj'.dst u a3) (wanted_put o a oj'.dst u a3)
        refine ⟨oj', u, hoj, hyj', ?_⟩
        rw [Act.put_comm a v u a2, Array.setIfInBounds_comm _ _ (Ne.symm hji)] at hdj
        refine .step ho hin (inv.set hj (hT _ inv i hin hun j hj)) (ready_mono hr (Ne.symm hji)) ?_ hyi' hdj
        intro m om hm hmi hmun hmno
        refine hap m om hm hmi ?_ hmno
        by_cases hmj : j = m
        · subst hmj; exact hjun
        · rw [getD_set_ne true hmj] at hmun; exact hmun

theorem wpAny_of_detB {n g : Nat} {E : Array Bool → Act → Prop} {Q : Exit → Act → World → Prop} (hsel : ∀ (j : Nat) (o : Oper) cs b, ops[j]? = some o → o.op ≠ .select cs b) (hT : TailWaitsB md ops n)
    (hE : ∀ listed a w, E listed a → Below W.heap.size W w → wpAny P md ops Q g listed a w) :
    ∀ (k : Nat) (listed : Array Bool) (a : Act) (w : World), DetB P md ops W n E k listed a → Below W.heap.size W w → wpAny P md ops Q (k + g) listed a w
  | 0, listed, a, w, h, hw => by
    rw [Nat.zero_add]
    cases h with
    | done _ h => exact hE _ _ _ h hw
  | k + 1, listed, a, w, h, hw => by
    obtain ⟨h1, _, h2⟩ := DetB.any hsel hT h
    rw [show k + 1 + g = (k + g) + 1 by omega]
    refine ⟨fun h0 => absurd h0 h1, fun j hj => ?_⟩
    obtain ⟨_, o, v, ho, hy, hd⟩ := h2 j hj
    exact hy.wpOp ho hw fun w' hb => wpAny_of_detB hsel hT hE k _ _ w' hd (hw.trans (hb.mono hw.size))

/-- a world above W in which the block b was made -/
structure Made (W : World) (t : TypeId) (cs : Array Value) (b : Nat) (w : World) : Prop where
  below : Below W.heap.size W w
  ge : W.heap.size ≤ b
  blk : Blk w b t cs
theorem Made.step {t : TypeId} {cs : Array Value} {b : Nat} {w w' : World} (h : Made W t cs b w) (k : Below w.heap.size w w') : Made W t cs b w' :=
  ⟨h.below.trans (k.mono h.below.size), h.ge, h.blk.below k⟩

variable {f : Nat} {of : Oper} {t : TypeId} {cs : Array Value}
/-- the check: so many operations from k on, each ready and free; then the tail from n on, one behind the other -/
def headF (md : Region.Mode) (ops : Array Oper) (g n : Nat) : Nat → Nat → Array Bool → Bool
  | 0, _, listed => Region.seqB md ops g n listed
  | m + 1, k, listed => (Region.ready md ops listed).contains k && Region.free md ops listed k && headF md ops g n m (k + 1) (listed.setIfInBounds k true)

/-- the walk in the text's order; nobody looks into it -/
inductive WalkB (P : Program) (ops : Array Oper) (W : World) (Q : Act → Prop) : List Oper → Act → Prop
  | nil {a : Act} : Q a → WalkB P ops W Q [] a
  | cons {o : Oper} {rest : List Oper} {a : Act} {v : Value} : YB P ops W o v a → WalkB P ops W Q rest (a.put o.dst v) → WalkB P ops W Q (o :: rest) a

theorem detB_lex {n g : Nat} {Lq : Act → Prop} :
    ∀ (l : List Oper) (k : Nat) (listed : Array Bool) (a : Act), (∀ j, j < l.length → l[j]? = ops[k + j]?) → k + l.length ≤ n → HeadInv md ops n listed →
    headF md ops g n l.length k listed = true → WalkB P ops W Lq l a →
    DetB P md ops W n (fun listed' a' => Region.seqB md ops g n listed' = true ∧ Lq a') l.length listed a
  | [], k, listed, a, _, _, _, hB, h => by
    have hs : Region.seqB md ops g n listed = true := by simpa [headF] using hB
    cases h with
    | nil h => exact .done (seqB_ready hs) ⟨hs, h⟩
  | o :: l, k, listed, a, hl, hk, inv, hB, h => by
    have h0 : ops[k]? = some o := by simpa using (hl 0 (by simp)).symm
    simp only [List.length_cons, headF, Bool.and_eq_true] at hB
    obtain ⟨⟨hr, hf⟩, hB'⟩ := hB
    have hkn : k < n := by simp only [List.length_cons] at hk; omega
    have hr' : k ∈ Region.ready md ops listed := by simpa using hr
    cases h with
    | cons hy hd =>
      refine .step h0 hkn inv hr' (Region.free_spec h0 hf) hy ?_
      exact (detB_lex l (k + 1) _ _ (fun j hj => by have := hl (j + 1) (by simp; omega); simpa [Nat.add_assoc, Nat.add_comm 1 j] using this) (by simp only [List.length_cons] at hk; omega) (inv.set hr' hkn) hB' hd)

def tailOkB (ops : Array Oper) (n : Nat) : Bool := Region.noSelect ops && (decide (n = ops.size) || (decide (n < ops.size) && Region.sinkB .any ops n && Region.chainB .any ops n))
theorem tailOkB_spec {n : Nat} (h : tailOkB ops n = true) : Region.noSelect ops = true ∧ n ≤ ops.size ∧ TailWaitsB .any ops n := by
  simp only [tailOkB, Bool.and_eq_true, Bool.or_eq_true, decide_eq_true_eq] at h
  obtain ⟨hsel, hn⟩ := h
  refine ⟨hsel, ?_, ?_⟩
  · rcases hn with h | ⟨⟨h, _⟩, _⟩ <;> omega
  · intro listed inv i hi hun t ht
    rcases hn with h | ⟨⟨h, hs⟩, hc⟩
    · obtain ⟨_, o, ho, _⟩ := mem_ready.1 ht
      have := (Array.getElem?_eq_some_iff.1 ho).1
      omega
    · rcases Nat.lt_or_ge t n with h1 | h1
      · exact h1
      · exact absurd ht (tail_waits hs hc h inv _ i rfl hi hun t h1)
theorem inv_new (n : Nat) : HeadInv md ops n (Array.replicate ops.size false) :=
  ⟨by simp, fun j oj _ hl => (by rw [getD_replicate_false] at hl; cases hl), fun t _ ht => getD_in (by simpa using ht) (getD_replicate_false _ _)⟩

/-- n operations, then the rest one behind the other -/
theorem wp_region_b {id : Nat} {Q : Exit → Act → World → Prop} {a : Act} {w : World} {l : List Oper} (n : Nat) (hm : P.follows .mixedOrders = true)
    (hB : (tailOkB l.toArray n && headF .any l.toArray (l.toArray.size - n) n n 0 (Array.replicate l.toArray.size false)) = true)
    (h : WalkB P l.toArray w (fun a' => ∀ w', Below w.heap.size w w' → wpList P l.toArray Q (l.drop n) a' w') (l.take n) a) : (Code.region id l.toArray true).wp P Q a w := by
  rw [Bool.and_eq_true] at hB
  obtain ⟨hok, hlex⟩ := hB
  obtain ⟨hsel, hnl, hT⟩ := tailOkB_spec hok
  have htl : (l.take n).length = n := by simp at hnl ⊢; omega
  have hdl : (l.drop n).length = l.toArray.size - n := by simp
  have H := detB_lex (P := P) (md := .any) (W := w) (n := n) (g := l.toArray.size - n) (l.take n) 0 _ a (fun j hj => by
    have hj' : j < n := by rw [htl] at hj; exact hj
    simp [hj']) (by rw [htl]; omega) (inv_new n) (by rw [htl]; exact hlex) h
  refine wp_region_any hm ?_
  have := wpAny_of_detB (Q := Q) (g := l.toArray.size - n) (Region.noSelect_spec hsel) hT (fun listed a' w' hL hw => by
    have := wpAny_of_seq (md := .any) (Q' := Q) (l.drop n) n listed a' w' (fun j => by simp [List.getElem?_drop]) (by rw [hdl]; exact hL.1) (hL.2 w' hw)
    rwa [hdl] at this) _ _ _ w.drew H (Below.refl _ _).drew
  rw [htl, show n + (l.toArray.size - n) = l.toArray.size by omega] at this
  exact this

variable {Q : Act → Prop} {a : Act} {o : Oper} {rest : List Oper}
theorem lb_val (hw : Region.wanted o (yielded ops a.tmps) = true) (h : ∃ v, (∀ w, Below W.heap.size W w → (execOp a.eval o).run P w = .ok (.value v) w) ∧ ∃ a', a.put o.dst v = a' ∧ WalkB P ops W Q rest a') : WalkB P ops W Q (o :: rest) a := by
  obtain ⟨v, hv, a', ha, h⟩ := h
  exact .cons (.inl ⟨hw, fun w hb => .inl (hv w hb)⟩) (by rw [ha]; exact h)
theorem lb_move (x : Operand) (hw : Region.wanted o (yielded ops a.tmps) = true) (hop : o.op = .move x) (h : ∃ v, a.eval x = v ∧ ∃ a', a.put o.dst v = a' ∧ WalkB P ops W Q rest a') : WalkB P ops W Q (o :: rest) a := by
  obtain ⟨v, hv, h⟩ := h
  exact lb_val hw ⟨v, fun w _ => by rw [BigFrame.run_move x hop, hv], h⟩
end
end Go.Proofs.Yticfjnjeoikalaa

/- Drawn regions in the text's order: operations that only tell what stays so (they may come at any time), others each of which is alone when it comes, and a tail behind all of them. No program. -/
namespace Go.Proofs.Yticfjnjeoikalaa
open Go.RowKit

section
variable {P : Program} {ops : Array Oper} {md : Region.Mode} {C : World → Prop}

/-- nothing but a value -/
def Qz : Exit → Act → World → Prop := fun _ _ _ => False
theorem letsOut_qz : ¬ LetsOut Qz := fun h => by
  obtain ⟨_, _, h⟩ := h
  exact h
theorem Oper.wp_of_z {o : Oper} {a : Act} {w : World} {K : Act → World → Prop} {Q : Exit → Act → World → Prop} (h : o.wp P a w K Qz) : o.wp P a w K Q := by
  unfold Oper.wp at *
  generalize (execOp a.eval o).run P w = r at *
  cases r with
  | ok n w' =>
    cases n <;> simp only [Oper.upon] at h ⊢
    case enter f args =>
      refine Calls.mono h fun e w'' he => ?_
      cases e with
      | returned u => exact he
      | panicked c => exact absurd he (by simp [Qz])
      | outgrown => exact absurd he letsOut_qz
    all_goals first | exact h | exact absurd h (by simp)
  | halt x w' =>
    cases x <;> simp only [Oper.upon] at h ⊢
    case panic u => exact absurd h (by simp [Qz])
theorem wpOp_of_z {i : Nat} {a : Act} {w : World} {K : Act → World → Prop} {Q : Exit → Act → World → Prop} (h : wpOp P ops Qz i K a w) : wpOp P ops Q i K a w := by
  unfold wpOp at *
  split
  · rename_i h0; simpa [h0] using h
  · rename_i o ho
    simp only [ho] at h
    split
    · rename_i hw
      simp only [hw, if_true] at h
      rcases h with h | ⟨_, h⟩
      · exact .inl (Oper.wp_of_z h)
      · exact absurd h letsOut_qz
    · rename_i hw; simpa [hw] using h

/-- in every world of the class it tells v, and nothing turns -/
def StC (P : Program) (ops : Array Oper) (C : World → Prop) (o : Oper) (v : Value) (a : Act) : Prop :=
  (Region.wanted o (yielded ops a.tmps) = true ∧ ∀ w, C w → (execOp a.eval o).run P w = .ok (.value v) w) ∨ (Region.wanted o (yielded ops a.tmps) = false ∧ v = undef)
theorem StC.of_same {o : Oper} {v : Value} {a a' : Act} (hy : StC P ops C o v a) (he : execOp a'.eval o = execOp a.eval o)
    (hw : Region.wanted o (yielded ops a'.tmps) = Region.wanted o (yielded ops a.tmps)) : StC P ops C o v a' := by
  unfold StC at *
  rw [he, hw]
  exact hy
theorem StC.wpOp {i : Nat} {o : Oper} {v : Value} {a : Act} {w : World} {K : Act → World → Prop} {Q : Exit → Act → World → Prop} (hi : ops[i]? = some o) (hy : StC P ops C o v a) (hw : C w)
    (hK : K (a.put o.dst v) w) : wpOp P ops Q i K a w := by
  unfold Go.wpOp
  simp only [hi]
  rcases hy with ⟨hwt, hv⟩ | ⟨hwt, rfl⟩
  · simp only [hwt, if_true, Oper.wp, hv w hw, Oper.upon]
    exact .inl hK
  · simp only [hwt, Bool.false_eq_true, if_false]
    exact hK

theorem wpOp_putC {j : Nat} {oi oj : Oper} {v : Value} (hj : ops[j]? = some oj) (hap : oi.apart ops oj = true)
    (hsi : ∀ cs b, oi.op ≠ .select cs b) (hsj : ∀ cs b, oj.op ≠ .select cs b) {K : Act → World → Prop} {a : Act} {w : World}
    (hy : StC P ops C oi v a) (h : wpOp P ops Qz j K (a.put oi.dst v) w) :
    wpOp P ops Qz j (fun a' w' => StC P ops C oi v a' ∧ K (a'.put oi.dst v) w') a w := by
  obtain ⟨h1, h2, h3⟩ := Oper.apart_spec hap
  have keep : ∀ (a : Act), StC P ops C oi v a → ∀ u, StC P ops C oi v (a.put oj.dst u) := fun a hy u =>
    hy.of_same (execOp_put oi hsi a oj.dst u h3) (wanted_put oi a oj.dst u h3)
  have keepD : ∀ d, StC P ops C oi v { a with defers := d :: a.defers } := fun d => hy.of_same rfl rfl
  unfold wpOp at *
  simp only [hj] at *
  rw [wanted_put oj a oi.dst v h1] at h
  split
  · rename_i hw
    simp only [hw, if_true] at h
    rcases h with h | ⟨_, hlets⟩
    case inr => exact absurd hlets letsOut_qz
    refine .inl ?_
    unfold Oper.wp at *
    rw [execOp_put oj hsj a oi.dst v h1] at h
    generalize (execOp a.eval oj).run P w = r at *
    cases r with
    | ok n w' =>
      cases n <;> simp only [Oper.upon] at h ⊢
      case value u => exact ⟨keep a hy u, by rw [← Act.put_comm a v u h2]; exact h⟩
      case skip => exact ⟨keep a hy _, by rw [← Act.put_comm a v undef h2]; exact h⟩
      case defer d =>
        refine ⟨keep _ (keepD d) _, ?_⟩
        rw [← Act.put_comm _ v undef h2, ← Act.put_defers]
        exact h
      case enter f args =>
        refine Calls.mono h fun e w'' he => ?_
        cases e with
        | returned u => exact ⟨keep a hy u, by rw [← Act.put_comm a v u h2]; exact he⟩
        | panicked c => exact absurd he (by simp [Qz])
        | outgrown => exact he
      case row row args => exact Rows.mono h fun u w'' he => ⟨keep a hy u, by rw [← Act.put_comm a v u h2]; exact he⟩
    | halt x w' =>
      cases x <;> simp only [Oper.upon] at h ⊢
      case panic u => exact absurd h (by simp [Qz])
  · rename_i hw
    simp only [hw] at h
    exact ⟨keep a hy _, by rw [← Act.put_comm a v undef h2]; exact h⟩

/-- so many operations below m, each of which may come up, then E -/
def wpAnyT (P : Program) (md : Region.Mode) (ops : Array Oper) (C : World → Prop) (m : Nat) (E : Array Bool → Act → World → Prop) : Nat → Array Bool → Act → World → Prop
  | 0, listed, a, w => C w ∧ (∀ j ∈ Region.ready md ops listed, m ≤ j) ∧ E listed a w
  | k + 1, listed, a, w => C w ∧ Region.ready md ops listed ≠ [] ∧ ∀ i ∈ Region.ready md ops listed, i < m ∧ wpOp P ops Qz i (wpAnyT P md ops C m E k (listed.setIfInBounds i true)) a w
theorem wpAnyT.c {m k : Nat} {E : Array Bool → Act → World → Prop} {listed : Array Bool} {a : Act} {w : World} (h : wpAnyT P md ops C m E k listed a w) : C w := by
  cases k with
  | zero => exact h.1
  | succ k => exact h.1

theorem wpAnyT_first {m i : Nat} {oi : Oper} {v : Value} {E : Array Bool → Act → World → Prop} (hi : ops[i]? = some oi) (him : i < m) (hsel : ∀ (j : Nat) (o : Oper) cs b, ops[j]? = some o → o.op ≠ .select cs b) (hT : TailWaitsB md ops m) :
    ∀ (fuel : Nat) (listed : Array Bool) (a : Act) (w : World), HeadInv md ops m listed →
      (∀ j oj, ops[j]? = some oj → j ≠ i → listed.getD j true = false → (∀ e ∈ oj.after, Region.binds md e = true → e.on ≠ i) → oi.apart ops oj = true) →
      i ∈ Region.ready md ops listed → StC P ops C oi v a →
      wpAnyT P md ops C m E fuel (listed.setIfInBounds i true) (a.put oi.dst v) w → wpAnyT P md ops C m E (fuel + 1) listed a w := by
  intro fuel
  induction fuel with
  | zero =>
    intro listed a w inv _ hr hy H
    refine ⟨H.c, fun h => (by rw [h] at hr; cases hr), fun j hj => ?_⟩
    by_cases hji : j = i
    · subst hji; exact ⟨him, hy.wpOp hi H.c H⟩
    · have h1 := H.2.1 j (ready_mono hj hji)
      have h2 := hT listed inv i him (mem_ready.1 hr).1 j hj
      omega
  | succ fuel ih =>
    intro listed a w inv hfree hr hy H
    refine ⟨H.c, fun h => (by rw [h] at hr; cases hr), fun j hj => ?_⟩
    by_cases hji : j = i
    · subst hji; exact ⟨him, hy.wpOp hi H.c H⟩
    · obtain ⟨hjm, h1⟩ := H.2.2 j (ready_mono hj hji)
      obtain ⟨hjun, oj, hoj, hall⟩ := mem_ready.1 hj
      have hnot : ∀ e ∈ oj.after, Region.binds md e = true → e.on ≠ i := fun e he hb heq => by
        have h1 := hall e he hb
        rw [heq, getD_both (mem_ready.1 hr).1] at h1
        cases h1
      have h2 := wpOp_putC hoj (hfree j oj hoj hji hjun hnot) (fun cs b => hsel i oi cs b hi) (fun cs b => hsel j oj cs b hoj) hy h1
      have hfree' : ∀ k ok, ops[k]? = some ok → k ≠ i → (listed.setIfInBounds j true).getD k true = false →
          (∀ e ∈ ok.after, Region.binds md e = true → e.on ≠ i) → oi.apart ops ok = true := fun k ok hk hki hun hno => by
        refine hfree k ok hk hki ?_ hno
        by_cases hjk : j = k
        · subst hjk; exact hjun
        · rw [getD_set_ne true hjk] at hun; exact hun
      refine ⟨hjm, wpOp_mono (fun a' w' h3 => ih (listed.setIfInBounds j true) a' w' (inv.set hj hjm) hfree' (ready_mono hr (Ne.symm hji)) h3.1 ?_) h2⟩
      rw [Array.setIfInBounds_comm _ _ hji]
      exact h3.2

theorem wpAny_of_T {m g : Nat} {E : Array Bool → Act → World → Prop} {Q : Exit → Act → World → Prop} (hE : ∀ listed a w, E listed a w → wpAny P md ops Q g listed a w) :
    ∀ (k : Nat) (listed : Array Bool) (a : Act) (w : World), wpAnyT P md ops C m E k listed a w → wpAny P md ops Q (k + g) listed a w
  | 0, listed, a, w, h => by rw [Nat.zero_add]; exact hE _ _ _ h.2.2
  | k + 1, listed, a, w, h => by
    rw [show k + 1 + g = (k + g) + 1 by omega]
    exact ⟨fun h0 => absurd h0 h.2.1, fun j hj => wpOp_mono (fun a' w' h' => wpAny_of_T hE k _ a' w' h') (wpOp_of_z (h.2.2 j hj).2)⟩

/-- the walk in the text's order: true: it only tells; false: it is alone -/
def wpMix (P : Program) (ops : Array Oper) (C : World → Prop) (E : Act → World → Prop) : List Bool → List Oper → Act → World → Prop
  | [], [], a, w => C w ∧ E a w
  | true :: ks, o :: l, a, w => ∃ v, StC P ops C o v a ∧ wpMix P ops C E ks l (a.put o.dst v) w
  | false :: ks, o :: l, a, w => C w ∧ ((Region.wanted o (yielded ops a.tmps) = true ∧ o.wp P a w (wpMix P ops C E ks l) Qz) ∨ (Region.wanted o (yielded ops a.tmps) = false ∧ wpMix P ops C E ks l (a.put o.dst undef) w))
  | _, _, _, _ => False
/-- nobody looks into it -/
structure MixW (P : Program) (ops : Array Oper) (C : World → Prop) (E : Act → World → Prop) (ks : List Bool) (l : List Oper) (a : Act) (w : World) : Prop where
  go : wpMix P ops C E ks l a w

variable {E : Act → World → Prop} {ks : List Bool} {o : Oper} {rest : List Oper} {a : Act} {w : World}
theorem mx_val (hw : Region.wanted o (yielded ops a.tmps) = true) (h : ∃ v, (∀ w, C w → (execOp a.eval o).run P w = .ok (.value v) w) ∧ ∃ a', a.put o.dst v = a' ∧ MixW P ops C E ks rest a' w) : MixW P ops C E (true :: ks) (o :: rest) a w := by
  obtain ⟨v, hv, a', ha, h⟩ := h
  exact ⟨v, .inl ⟨hw, hv⟩, by rw [ha]; exact h.go⟩
theorem mx_move (x : Operand) (hw : Region.wanted o (yielded ops a.tmps) = true) (hop : o.op = .move x) (h : ∃ v, a.eval x = v ∧ ∃ a', a.put o.dst v = a' ∧ MixW P ops C E ks rest a' w) : MixW P ops C E (true :: ks) (o :: rest) a w := by
  obtain ⟨v, hv, h⟩ := h
  exact mx_val hw ⟨v, fun w _ => by rw [BigFrame.run_move x hop, hv], h⟩
/-- alone: a call -/
theorem mx_call {f : FuncId} {args : Array Value} {R : Ending → World → Prop} (hc : C w) (hw : Region.wanted o (yielded ops a.tmps) = true) (hv : (execOp a.eval o).run P w = .ok (.enter f args) w) (hcall : Calls P f args w R)
    (h : ∀ e w', R e w' → ∃ v, e = .returned v ∧ ∃ a', a.put o.dst v = a' ∧ MixW P ops C E ks rest a' w') : MixW P ops C E (false :: ks) (o :: rest) a w := by
  refine ⟨hc, .inl ⟨hw, ?_⟩⟩
  unfold Oper.wp
  rw [hv]
  refine hcall.mono fun e w' he => ?_
  obtain ⟨v, rfl, a', ha, h⟩ := h e w' he
  show wpMix P ops C E ks rest (a.put o.dst v) w'
  rw [ha]
  exact h.go
theorem mx_end (hc : C w) (h : E a w) : MixW P ops C E [] [] a w := ⟨hc, h⟩
end
end Go.Proofs.Yticfjnjeoikalaa

/- Drawn regions in an order of ours: as Mix, but the operations are told in any order that the region may have. No program. -/
namespace Go.Proofs.Yticfjnjeoikalaa
open Go.RowKit

section
variable {P : Program} {ops : Array Oper} {md : Region.Mode} {C : World → Prop}
def mixP (md : Region.Mode) (ops : Array Oper) (g m : Nat) : List (Nat × Bool) → Array Bool → Bool
  | [], listed => Region.seqB md ops g m listed
  | (k, true) :: ks, listed => decide (k < m) && (Region.ready md ops listed).contains k && Region.free md ops listed k && mixP md ops g m ks (listed.setIfInBounds k true)
  | (k, false) :: ks, listed => decide (k < m) && decide (Region.ready md ops listed = [k]) && mixP md ops g m ks (listed.setIfInBounds k true)
theorem mix_perm {m g : Nat} {Lq : Act → World → Prop} (hsel : ∀ (j : Nat) (o : Oper) cs b, ops[j]? = some o → o.op ≠ .select cs b) (hT : TailWaitsB md ops m) :
    ∀ (ks : List (Nat × Bool)) (l : List Oper) (listed : Array Bool) (a : Act) (w : World), l.map some = ks.map (fun x => ops[x.1]?) → HeadInv md ops m listed →
    mixP md ops g m ks listed = true → wpMix P ops C Lq (ks.map (·.2)) l a w →
    wpAnyT P md ops C m (fun listed' a' w' => Region.seqB md ops g m listed' = true ∧ Lq a' w') l.length listed a w
  | [], [], listed, a, w, _, _, hB, h => ⟨h.1, seqB_ready hB, hB, h.2⟩
  | (k, true) :: ks, o :: l, listed, a, w, hl, inv, hB, h => by
    simp only [List.map_cons, List.cons.injEq] at hl
    have h0 : ops[k]? = some o := hl.1.symm
    simp only [mixP, Bool.and_eq_true, decide_eq_true_eq] at hB
    obtain ⟨⟨⟨hkm, hr⟩, hf⟩, hB'⟩ := hB
    have hr' : k ∈ Region.ready md ops listed := by simpa using hr
    obtain ⟨v, hy, h'⟩ := h
    exact wpAnyT_first h0 hkm hsel hT _ listed a w inv (Region.free_spec h0 hf) hr' hy (mix_perm hsel hT ks l _ _ w hl.2 (inv.set hr' hkm) hB' h')
  | (k, false) :: ks, o :: l, listed, a, w, hl, inv, hB, h => by
    simp only [List.map_cons, List.cons.injEq] at hl
    have h0 : ops[k]? = some o := hl.1.symm
    simp only [mixP, Bool.and_eq_true, decide_eq_true_eq] at hB
    obtain ⟨⟨hkm, hr⟩, hB'⟩ := hB
    obtain ⟨hc, h'⟩ := h
    refine ⟨hc, fun h1 => (by rw [hr] at h1; cases h1), fun i hi => ?_⟩
    have hi' := hi
    rw [hr] at hi
    have hik : i = k := by simpa using hi
    subst hik
    refine ⟨hkm, ?_⟩
    have rec_ : ∀ a' w', wpMix P ops C Lq (ks.map (·.2)) l a' w' → wpAnyT P md ops C m (fun listed' a' w' => Region.seqB md ops g m listed' = true ∧ Lq a' w') l.length (listed.setIfInBounds i true) a' w' := fun a' w' h2 =>
      mix_perm hsel hT ks l _ a' w' hl.2 (inv.set hi' hkm) hB' h2
    unfold wpOp
    simp only [h0]
    rcases h' with ⟨hw, h'⟩ | ⟨hw, h'⟩
    · simp only [hw, if_true]
      exact .inl (Oper.wp_mono rec_ h')
    · simp only [hw, Bool.false_eq_true, if_false]
      exact rec_ _ _ h'
  | [], _ :: _, _, _, _, hl, _, _, _ => by simp at hl
  | (_, true) :: _, [], _, _, _, hl, _, _, _ => by simp at hl
  | (_, false) :: _, [], _, _, _, hl, _, _, _ => by simp at hl
theorem filterMap_some (l : List Oper) : ∀ (ks : List (Nat × Bool)), ks.all (fun x => decide (x.1 < l.length)) = true → (ks.filterMap fun x => l[x.1]?).map some = ks.map (fun x => l.toArray[x.1]?)
  | [], _ => rfl
  | x :: ks, h => by
    simp only [List.all_cons, Bool.and_eq_true, decide_eq_true_eq] at h
    have ih := filterMap_some l ks h.2
    rw [List.filterMap_cons, List.getElem?_eq_getElem h.1]
    simp only [List.map_cons]
    rw [ih, show l.toArray[x.1]? = some l[x.1] by simp [h.1]]
/-- the first operations in an order of ours, by kinds; the rest one behind the other -/
theorem wp_region_p {id : Nat} {Q : Exit → Act → World → Prop} {a : Act} {w : World} {l : List Oper} (ks : List (Nat × Bool)) (C : World → Prop) (hm : P.follows .mixedOrders = true)
    (hB : (ks.all (fun x => decide (x.1 < l.length)) && tailOkB l.toArray ks.length && mixP .any l.toArray (l.toArray.size - ks.length) ks.length ks (Array.replicate l.toArray.size false)) = true)
    (h : MixW P l.toArray C (fun a' w' => wpList P l.toArray Q (l.drop ks.length) a' w') (ks.map (·.2)) (ks.filterMap fun x => l[x.1]?) a w.drew) : (Code.region id l.toArray true).wp P Q a w := by
  rw [Bool.and_eq_true, Bool.and_eq_true] at hB
  obtain ⟨⟨hall, hok⟩, hlex⟩ := hB
  obtain ⟨hsel, hnl, hT⟩ := tailOkB_spec hok
  have hfm := filterMap_some l ks hall
  have hfl : (ks.filterMap fun x => l[x.1]?).length = ks.length := by simpa using congrArg List.length hfm
  have hdl : (l.drop ks.length).length = l.toArray.size - ks.length := by simp
  have H := mix_perm (P := P) (md := .any) (m := ks.length) (g := l.toArray.size - ks.length) (Region.noSelect_spec hsel) hT ks _ _ a w.drew hfm (inv_new ks.length) hlex h.go
  refine wp_region_any hm ?_
  have := wpAny_of_T (Q := Q) (g := l.toArray.size - ks.length) (fun listed a' w' hL => by
    have := wpAny_of_seq (md := .any) (Q' := Q) (l.drop ks.length) ks.length listed a' w' (fun j => by simp [List.getElem?_drop]) (by rw [hdl]; exact hL.1) hL.2
    rwa [hdl] at this) _ _ _ _ H
  rw [hfl, show ks.length + (l.toArray.size - ks.length) = l.toArray.size by simp at hnl ⊢; omega] at this
  exact this
end
end Go.Proofs.Yticfjnjeoikalaa
