/- pipe.at, Drop. -/
import Derived.Test.YtpbgcbpofhbgbaaPipeConcat
namespace Go.Proofs.Ytpbgcbpofhbgbaa
open Go.RowKit

set_option maxHeartbeats 400000 in
theorem pipeAt_out (base pb : Nat) (X : Nat → Prop) (A : Option Addr) (c : Nat) (ls : List PV) (cl : Bool) (w : World) (h : PipeAt w base pb X A c ls cl) (i : Int) (hi : i < 0 ∨ (ls.length : Int) ≤ i) :
    Calls Try.prog 39 #[.pointer (some ⟨pb, 0, none⟩), .int .i64 i] w fun e w' => e = .returned (.pointer none) ∧ w = w' := by
  by_cases h0 : i < 0
  · go_enter Try.func39, Try.ntmps39
    go_wp2_with fail
    go_ret
    exact ⟨rfl, rfl⟩
  · have h1 : (ls.length : Int) ≤ i := by omega
    clear hi
    go_enter Try.func39, Try.ntmps39
    go_wp2_with fail
    refine (pipeCount_any base pb X A c ls cl w h).mono ?_
    rintro e w1 ⟨rfl, rfl⟩
    go_wp2_with fail
    go_ret
    exact ⟨rfl, rfl⟩
set_option maxHeartbeats 400000 in
theorem pipeAt_in (base pb : Nat) (X : Nat → Prop) (g off : Nat) (c : Nat) (ls : List PV) (cl : Bool) (w : World) (h : PipeAt w base pb X (some ⟨g, off, none⟩) c ls cl) (i : Nat) (hi : i < ls.length) :
    Calls Try.prog 39 #[.pointer (some ⟨pb, 0, none⟩), .int .i64 i] w fun e w' => e = .returned (.pointer (if ls[i].b then none else some ⟨g, off + i * 3, none⟩)) ∧ w = w' := by
  have c0 := h.c0
  obtain ⟨g', off', e1, _, _, _, q0, q1, q2⟩ := h.par hi
  injection e1 with e1
  injection e1 with e1 e2
  subst e1 e2
  have hc := h.row.room
  have hcm := h.row.cap
  have hm : maxLen = 9223372036854775807 := rfl
  rw [hm] at hcm
  cases hb : ls[i].b
  · rw [hb] at q1
    go_enter Try.func39, Try.ntmps39
    go_wp2_with fail
    refine (pipeCount_any base pb X _ c ls cl w h).mono ?_
    rintro e w1 ⟨rfl, rfl⟩
    go_wp2_with fail
    go_ret
    exact ⟨rfl, rfl⟩
  · rw [hb] at q1
    go_enter Try.func39, Try.ntmps39
    go_wp2_with fail
    refine (pipeCount_any base pb X _ c ls cl w h).mono ?_
    rintro e w1 ⟨rfl, rfl⟩
    go_wp2_with fail
    go_ret
    exact ⟨rfl, rfl⟩
theorem flat_cut (ls : List PV) (k : Nat) : (ls.take k ++ ls.drop (k + 1)).flatMap PV.cells = (ls.flatMap PV.cells).take (k * 3) ++ (ls.flatMap PV.cells).drop ((k + 1) * 3) := by
  have h : ∀ (l : List PV) (k : Nat), (l.flatMap PV.cells).take (k * 3) = (l.take k).flatMap PV.cells ∧ (l.flatMap PV.cells).drop (k * 3) = (l.drop k).flatMap PV.cells := by
    intro l
    induction l with
    | nil => simp
    | cons p l ih =>
      intro k
      cases k with
      | zero => simp
      | succ k =>
        have e : (k + 1) * 3 = k * 3 + 1 + 1 + 1 := by omega
        obtain ⟨i1, i2⟩ := ih k
        rw [e]
        simp only [List.flatMap_cons, PV.cells, List.cons_append, List.nil_append, List.take_succ_cons, List.drop_succ_cons]
        exact ⟨by rw [i1], i2⟩
  rw [List.flatMap_append, (h ls k).1, (h ls (k + 1)).2]
/-- what Drop leaves -/
def dropI (S : List (List UInt8 × Bool × Bool)) (i : Int) : List (List UInt8 × Bool × Bool) × Bool :=
  if 0 ≤ i ∧ i < (S.length : Int) ∧ ((S.getD i.toNat ([], false, false)).2.1 = false) then (S.take i.toNat ++ S.drop (i.toNat + 1), true) else (S, false)

set_option maxHeartbeats 1000000 in
theorem pipeDrop_any (base pb : Nat) (X : Nat → Prop) (A : Option Addr) (c : Nat) (ls : List PV) (cl : Bool) (w : World) (h : PipeAt w base pb X A c ls cl) (i : Int) (hn : ls.length ≤ 1099511627776) (hbase : base ≤ w.heap.size) :
    Calls Try.prog 12 #[.pointer (some ⟨pb, 0, none⟩), .int .i64 i] w fun e w' => e = .returned (.bool (dropI (ls.map PV.s) i).2) ∧ PipeTo w base pb X A (dropI (ls.map PV.s) i).1 cl w' := by
  by_cases hi : i < 0 ∨ (ls.length : Int) ≤ i
  · have e1 : dropI (ls.map PV.s) i = (ls.map PV.s, false) := by unfold dropI; rw [if_neg]; rintro ⟨h1, h2, _⟩; simp at h2; omega
    rw [e1]
    go_enter Try.func12, Try.ntmps12
    go_wp2_with fail
    refine (pipeAt_out base pb X A c ls cl w h i hi).mono ?_
    rintro e w1 ⟨rfl, rfl⟩
    go_wp2_with fail
    go_ret
    exact ⟨rfl, h.to⟩
  · obtain ⟨k, rfl⟩ : ∃ k : Nat, i = k := ⟨i.toNat, by omega⟩
    have hk : k < ls.length := by omega
    obtain ⟨g, off, rfl, hgb, hgl, hgne, q0, q1, q2⟩ := h.par hk
    have hat := pipeAt_in base pb X g off c ls cl w h k hk
    have hsd : ((ls.map PV.s).getD k ([], false, false)).2.1 = ls[k].b := by rw [List.getD_eq_getElem?_getD, List.getElem?_map, List.getElem?_eq_getElem hk]; rfl
    cases hb : ls[k].b
    · have e1 : dropI (ls.map PV.s) (k : Int) = ((ls.map PV.s).take k ++ (ls.map PV.s).drop (k + 1), true) := by unfold dropI; rw [Int.toNat_natCast, if_pos ⟨by omega, by simpa using hk, by rw [hsd, hb]⟩]
      rw [e1]
      rw [hb] at hat
      have c0 := h.c0
      have f0 := h.f0
      have hc := h.row.room
      have hcm := h.row.cap
      have hm : maxLen = 9223372036854775807 := rfl
      rw [hm] at hcm
      have HAT := Lib.hid hat
      clear hat hsd hi e1
      have HR1 : Hid (Rd w (fun b => b = g) 3 (some ⟨g, off, none⟩) k ((ls.flatMap PV.cells).take (k * 3))) := (h.row.head (k := k) (by omega)).rd.mono (fun b _ hb => by simpa [ablk] using hb.symm)
      have ht := (h.row.tail (k := k + 1) (by omega)).rd
      have HO1 : Hid (∀ u ∈ (ls.flatMap PV.cells).take (k * 3), u.oneCell' = true) := fun u hu => par_one ls u (List.mem_of_mem_take hu)
      have HO2 : Hid (∀ u ∈ (ls.flatMap PV.cells).drop ((k + 1) * 3), u.oneCell' = true) := fun u hu => par_one ls u (List.mem_of_mem_drop hu)
      have hwr : IntKind.i64.wrap ((k : Int) + 1) = (k : Int) + 1 := IntWalk.i64_in _ (by omega)
      have b1 : (0 : Int) ≤ (k : Int) := by omega
      have b2 : (k : Int) ≤ (c : Int) := by omega
      have b3 : (k : Int) + 1 ≤ (ls.length : Int) := by omega
      have b4 : (0 : Int) ≤ (k : Int) + 1 := by omega
      have HL2 : Hid ((ls.take k ++ ls.drop (k + 1)).length = k + (ls.length - (k + 1))) := by show _ = _; rw [List.length_append, List.length_take, List.length_drop]; omega
      have HX2 : Hid ((ls.take k ++ ls.drop (k + 1)).flatMap PV.cells = (ls.flatMap PV.cells).take (k * 3) ++ (ls.flatMap PV.cells).drop ((k + 1) * 3)) := flat_cut ls k
      by_cases hck : c = k + 1
      · have hlk : ls.length = k + 1 := by omega
        clear ht
        subst hck
        have HD : Hid ((ls.flatMap PV.cells).drop ((k + 1) * 3) = []) := List.drop_of_length_le (by rw [flat_len (k := 3) (fun _ => rfl), hlk]; exact Nat.le_refl _)
        have HZ : Hid (k + (ls.length - (k + 1)) = k) := by show _ = _; omega
        have b5 : (k : Int) ≤ (k : Int) + 1 := by omega
        have b6 : (ls.length : Int) ≤ (k : Int) + 1 := by omega
        have hW : Below w.heap.size w ((w.alloc (.cells #[.slice (some ⟨g, off, none⟩) k k, .slice (some ⟨g, off, none⟩) 0 0] 46)).drew) := ((Below.refl _ _).alloc (Nat.le_refl _) _).drew
        have bW := (Blk.new w 46 #[.slice (some ⟨g, off, none⟩) k k, .slice (some ⟨g, off, none⟩) 0 0]).drew
        have g1 : ((w.alloc (.cells #[.slice (some ⟨g, off, none⟩) k k, .slice (some ⟨g, off, none⟩) 0 0] 46)).drew).cell? ⟨w.heap.size, 0, none⟩ = some (.slice (some ⟨g, off, none⟩) k k) := bW.cell 0
        have g2 : ((w.alloc (.cells #[.slice (some ⟨g, off, none⟩) k k, .slice (some ⟨g, off, none⟩) 0 0] 46)).drew).cell? ⟨w.heap.size, 1, none⟩ = some (.slice (some ⟨g, off, none⟩) 0 0) := bW.cell 1
        have hcc := concat2_any w.heap.size (some ⟨g, off, none⟩) (some ⟨g, off, none⟩) k k 0 0 ((ls.flatMap PV.cells).take (k * 3)) [] (fun b => b = g) ((w.alloc (.cells #[.slice (some ⟨g, off, none⟩) k k, .slice (some ⟨g, off, none⟩) 0 0] 46)).drew) g1 g2 (by simp [World.drew]) (HR1.out.below hW) ((Rd.nil (w := w) (Z := fun b => b = g) (size := 3) (A := some ⟨g, off, none⟩)).below hW) HO1.out (by simp) (by omega)
        have HCC := Lib.hid hcc
        clear g1 g2 hcc
        go_enter Try.func12, Try.ntmps12
        go_wp2_with fail
        refine HAT.out.mono ?_
        rintro e w1 ⟨rfl, rfl⟩
        go_wp2_with fail
        go_region_law
          (first
          | (go_simp; go_at_call 40; refine HCC.out.mono ?_; rintro e w2 ⟨A3, c3, rfl, hrow3, hb3⟩; have hk2 : Below w.heap.size w w2 := hW.trans (hb3.mono hW.size); have hp2 := h.below hk2; have c02 := hp2.c0; have f02 := hp2.f0; go_wp2_with fail))
        all_goals
          have hrow : Pars w2 base A3 c3 (ls.take k ++ ls.drop (k + 1)) := by
            unfold Pars
            rw [HL2.out, HX2.out]
            have h3 := hrow3.rebase (base' := base) (fun g' hg' => Nat.le_trans (Nat.le_trans hbase hW.size) (hrow3.lt g' hg').1)
            rw [HD.out, HZ.out]
            exact h3
          have hpt := PipeTo.stored (w2 := w2) h hW hrow ⟨hb3.os, hb3.tape, hb3.output, hb3.size, fun k hk _ => hb3.block k hk⟩ (fun g' hg' => .inr (hrow3.lt g' hg').1) (fun p hp => ?_) (fun p hp => ?_)
          · rw [HL2.out, HZ.out, List.map_append, List.map_take, List.map_drop] at hpt
            go_wp2_with fail
            go_ret
            exact ⟨rfl, hpt⟩
          · refine BV.ok.below (w := w) ?_ hW
            rcases List.mem_append.1 hp with hp | hp
            · exact h.ok p (List.mem_of_mem_take hp)
            · exact h.ok p (List.mem_of_mem_drop hp)
          · rcases List.mem_append.1 hp with hp | hp
            · exact h.full p (List.mem_of_mem_take hp)
            · exact h.full p (List.mem_of_mem_drop hp)
      · rw [if_neg hck] at ht
        have HR2 : Hid (Rd w (fun b => b = g) 3 (some ⟨g, off + (k + 1) * 3, none⟩) (ls.length - (k + 1)) ((ls.flatMap PV.cells).drop ((k + 1) * 3))) := by
          rw [Option.map_some, add_none] at ht
          exact ht.mono (fun b _ hb => by simpa [ablk, hck] using hb.symm)
        clear ht
        have b7 : ¬ c - (k + 1) = 0 := by omega
        have hW : Below w.heap.size w ((w.alloc (.cells #[.slice (some ⟨g, off, none⟩) k k, .slice (some ⟨g, off + (k + 1) * 3, none⟩) (ls.length - (k + 1)) (c - (k + 1))] 46)).drew) := ((Below.refl _ _).alloc (Nat.le_refl _) _).drew
        have bW := (Blk.new w 46 #[.slice (some ⟨g, off, none⟩) k k, .slice (some ⟨g, off + (k + 1) * 3, none⟩) (ls.length - (k + 1)) (c - (k + 1))]).drew
        have g1 : ((w.alloc (.cells #[.slice (some ⟨g, off, none⟩) k k, .slice (some ⟨g, off + (k + 1) * 3, none⟩) (ls.length - (k + 1)) (c - (k + 1))] 46)).drew).cell? ⟨w.heap.size, 0, none⟩ = some (.slice (some ⟨g, off, none⟩) k k) := bW.cell 0
        have g2 : ((w.alloc (.cells #[.slice (some ⟨g, off, none⟩) k k, .slice (some ⟨g, off + (k + 1) * 3, none⟩) (ls.length - (k + 1)) (c - (k + 1))] 46)).drew).cell? ⟨w.heap.size, 1, none⟩ = some (.slice (some ⟨g, off + (k + 1) * 3, none⟩) (ls.length - (k + 1)) (c - (k + 1))) := bW.cell 1
        have hcc := concat2_any w.heap.size (some ⟨g, off, none⟩) (some ⟨g, off + (k + 1) * 3, none⟩) k k (ls.length - (k + 1)) (c - (k + 1)) ((ls.flatMap PV.cells).take (k * 3)) ((ls.flatMap PV.cells).drop ((k + 1) * 3)) (fun b => b = g) ((w.alloc (.cells #[.slice (some ⟨g, off, none⟩) k k, .slice (some ⟨g, off + (k + 1) * 3, none⟩) (ls.length - (k + 1)) (c - (k + 1))] 46)).drew) g1 g2 (by simp [World.drew]) (HR1.out.below hW) (HR2.out.below hW) HO1.out HO2.out (by omega)
        have HCC := Lib.hid hcc
        clear g1 g2 hcc
        go_enter Try.func12, Try.ntmps12
        go_wp2_with fail
        refine HAT.out.mono ?_
        rintro e w1 ⟨rfl, rfl⟩
        go_wp2_with fail
        go_region_law
          (first
          | (go_simp; go_at_call 40; refine HCC.out.mono ?_; rintro e w2 ⟨A3, c3, rfl, hrow3, hb3⟩; have hk2 : Below w.heap.size w w2 := hW.trans (hb3.mono hW.size); have hp2 := h.below hk2; have c02 := hp2.c0; have f02 := hp2.f0; go_wp2_with fail))
        all_goals
          have hrow : Pars w2 base A3 c3 (ls.take k ++ ls.drop (k + 1)) := by
            unfold Pars
            rw [HL2.out, HX2.out]
            have h3 := hrow3.rebase (base' := base) (fun g' hg' => Nat.le_trans (Nat.le_trans hbase hW.size) (hrow3.lt g' hg').1)
            exact h3
          have hpt := PipeTo.stored (w2 := w2) h hW hrow ⟨hb3.os, hb3.tape, hb3.output, hb3.size, fun k hk _ => hb3.block k hk⟩ (fun g' hg' => .inr (hrow3.lt g' hg').1) (fun p hp => ?_) (fun p hp => ?_)
          · rw [HL2.out, List.map_append, List.map_take, List.map_drop] at hpt
            go_wp2_with fail
            go_ret
            exact ⟨rfl, hpt⟩
          · refine BV.ok.below (w := w) ?_ hW
            rcases List.mem_append.1 hp with hp | hp
            · exact h.ok p (List.mem_of_mem_take hp)
            · exact h.ok p (List.mem_of_mem_drop hp)
          · rcases List.mem_append.1 hp with hp | hp
            · exact h.full p (List.mem_of_mem_take hp)
            · exact h.full p (List.mem_of_mem_drop hp)
    · have e1 : dropI (ls.map PV.s) (k : Int) = (ls.map PV.s, false) := by unfold dropI; rw [if_neg]; rintro ⟨_, _, h3⟩; rw [Int.toNat_natCast, hsd, hb] at h3; cases h3
      rw [e1]
      rw [hb] at hat
      have HAT := Lib.hid hat
      clear hat hsd hi e1
      go_enter Try.func12, Try.ntmps12
      go_wp2_with fail
      refine HAT.out.mono ?_
      rintro e w1 ⟨rfl, rfl⟩
      go_wp2_with fail
      go_ret
      exact ⟨rfl, h.to⟩
end Go.Proofs.Ytpbgcbpofhbgbaa
