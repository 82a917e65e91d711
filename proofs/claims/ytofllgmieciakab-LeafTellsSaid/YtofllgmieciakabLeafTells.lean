/- LeafTells is true for every input: whether any leaf is right, and the same as another one, and all else that is told of it, is the document's; a clone shares nothing with it. No condition beyond the row's own. -/
import Derived.Test.YtofllgmieciakabLeafLives
import Derived.Test.YtofllgmieciakabOwnPut
namespace Go.Proofs.Ytofllgmieciakab
open Go.RowKit Go.WideShapes Go.ChangeShapes Go.ChangeAt

theorem keep4 {w1 V w3 : World} {a0 a1 a2 a3 : Addr} {u0 u1 u2 u3 : Value} (hS : V.cell? a0 = some u0 ∧ V.cell? a1 = some u1 ∧ V.cell? a2 = some u2 ∧ V.cell? a3 = some u3 ∧ Below w1.heap.size w1 V) (k : Below V.heap.size V w3) :
    w3.cell? a0 = some u0 ∧ w3.cell? a1 = some u1 ∧ w3.cell? a2 = some u2 ∧ w3.cell? a3 = some u3 ∧ Below w1.heap.size w1 w3 :=
  have c : ∀ {a : Addr} {u : Value}, V.cell? a = some u → w3.cell? a = some u := fun {a _} h => (World.cell?_of_block (k.block a.block (World.block_lt_of_cell? V a h))).trans h
  ⟨c hS.1, c hS.2.1, c hS.2.2.1, c hS.2.2.2.1, hS.2.2.2.2.trans (k.mono hS.2.2.2.2.size)⟩
theorem low4 {w1 V : World} {a0 a1 a2 a3 : Addr} {u0 u1 u2 u3 : Value} (hS : V.cell? a0 = some u0 ∧ V.cell? a1 = some u1 ∧ V.cell? a2 = some u2 ∧ V.cell? a3 = some u3 ∧ Below w1.heap.size w1 V) : Below w1.heap.size w1 V := hS.2.2.2.2

set_option maxRecDepth 100000 in
set_option maxHeartbeats 1000000 in
theorem leafTells_any (ak bk : Int) (aA bA : Option Addr) (ac bc : Nat) (al bl : List UInt8) (kind : Int) (w : World) (ha : BV.ok w (fun b => b < w.heap.size) ⟨aA, ac, al⟩) (hb : BV.ok w (fun b => b < w.heap.size) ⟨bA, bc, bl⟩) (hal : al.length ≤ 140737488355328) (hbl : bl.length ≤ 140737488355328)
    (hak : -9223372036854775808 ≤ ak ∧ ak < 9223372036854775808) (hbk : -9223372036854775808 ≤ bk ∧ bk < 9223372036854775808) :
    Calls Try.prog 3 #[.agg #[.int .i64 ak, .slice aA al.length ac], .agg #[.int .i64 bk, .slice bA bl.length bc], .int .i64 kind] w fun e w' => e = .returned (.bool true) ∧ Below w.heap.size w w' := by
  obtain ⟨hya, hac, hacm⟩ := ha
  obtain ⟨hyb, hbc, hbcm⟩ := hb
  dsimp only at *
  have b0 := ((Blk.new w 24 #[.int .i64 ak, .slice aA al.length ac]).alloc (.cells #[.int .i64 bk, .slice bA bl.length bc] 24))
  have b1 := Blk.new (w.alloc (.cells #[.int .i64 ak, .slice aA al.length ac] 24)) 24 #[.int .i64 bk, .slice bA bl.length bc]
  have hz : (w.alloc (.cells #[.int .i64 ak, .slice aA al.length ac] 24)).heap.size = w.heap.size + 1 := by simp
  have hz2 : ((w.alloc (.cells #[.int .i64 ak, .slice aA al.length ac] 24)).alloc (.cells #[.int .i64 bk, .slice bA bl.length bc] 24)).heap.size = w.heap.size + 1 + 1 := by simp
  rw [hz] at b1
  have hw : Below w.heap.size w ((w.alloc (.cells #[.int .i64 ak, .slice aA al.length ac] 24)).alloc (.cells #[.int .i64 bk, .slice bA bl.length bc] 24)) := (by repeat (first | exact Below.refl _ _ | refine Below.alloc ?_ (by simp) _ | refine Below.setCell ?_ (by simp) _ | refine Below.drew ?_))
  go_enter Try.func3, Try.ntmps3
  go_wp2_with fail
  rw [← hz2]
  generalize (w.alloc (.cells #[.int .i64 ak, .slice aA al.length ac] 24)).alloc (.cells #[.int .i64 bk, .slice bA bl.length bc] 24) = W at *
  clear hz
  have hsW := hw.size
  refine (lightL_any (some ⟨W.heap.size, 0, none⟩) 2 [⟨ak, ⟨aA, ac, al⟩⟩, ⟨bk, ⟨bA, bc, bl⟩⟩] (fun b => b < w.heap.size ∨ W.heap.size ≤ b) _ ⟨(Rd.lit rfl rfl (by simp)).mono (fun b _ hb => .inr hb), ?_, ?_, ?_, by simp⟩).mono ?_
  · intro x hx
    rcases List.mem_cons.1 hx with rfl | hx
    · exact BV.ok.mono (BV.ok.below (w := w) ⟨hya, hac, hacm⟩ (hw.alloc hsW _)) (fun b _ hb => .inl hb)
    · obtain rfl := List.mem_singleton.1 hx
      exact BV.ok.mono (BV.ok.below (w := w) ⟨hyb, hbc, hbcm⟩ (hw.alloc hsW _)) (fun b _ hb => .inl hb)
  · intro x hx
    rcases List.mem_cons.1 hx with rfl | hx
    · exact hal
    · obtain rfl := List.mem_singleton.1 hx
      exact hbl
  · intro x hx
    rcases List.mem_cons.1 hx with rfl | hx
    · exact hak
    · obtain rfl := List.mem_singleton.1 hx
      exact hbk
  rintro e w1 ⟨rfl, hb1⟩
  have hWw1 : Below W.heap.size W w1 := ((Below.refl _ _).alloc (Nat.le_refl _) _).trans (hb1.mono (by simp))
  have hw1 : Below w.heap.size w w1 := hw.trans (hWw1.mono hsW)
  have ba := b0.below hWw1
  have bb := b1.below hWw1
  have hya1 := hya.below hw1
  have hyb1 := hyb.below hw1
  have hs1 := hw1.size
  clear hb1 b0 b1 hya hyb hw hWw1 hsW hz2
  cases hL : lightL [⟨ak, ⟨aA, ac, al⟩⟩, ⟨bk, ⟨bA, bc, bl⟩⟩]
  · go_wp2_with fail
    refine (lives07_any _).mono ?_
    rintro e w2 ⟨rfl, hb2⟩
    go_wp2_with fail
    go_ret
    exact ⟨rfl, hw1.trans (hb2.mono hs1)⟩
  · go_wp2_with fail
    have a0 : w1.cell? ⟨w.heap.size, 0, none⟩ = some (.int .i64 ak) := ba.cell 0
    have a1 : w1.cell? ⟨w.heap.size, 1, none⟩ = some (.slice aA al.length ac) := ba.cell 1
    have a2 : w1.cell? ⟨w.heap.size + 1, 0, none⟩ = some (.int .i64 bk) := bb.cell 0
    have a3 : w1.cell? ⟨w.heap.size + 1, 1, none⟩ = some (.slice bA bl.length bc) := bb.cell 1
    generalize hr1 : checkN ak al.length = r1
    go_region_held3 (fun w' => w'.cell? ⟨w.heap.size, 0, none⟩ = some (.int .i64 ak) ∧ w'.cell? ⟨w.heap.size, 1, none⟩ = some (.slice aA al.length ac) ∧ w'.cell? ⟨w.heap.size + 1, 0, none⟩ = some (.int .i64 bk) ∧ w'.cell? ⟨w.heap.size + 1, 1, none⟩ = some (.slice bA bl.length bc) ∧ Below w1.heap.size w1 w')
      (first | assumption | exact ⟨a0, a1, a2, a3, (Below.refl _ _).drew⟩ | exact keep4 (by assumption) hk)
      (first
      | (go_at_call 11; refine (leafCheck_any ak aA al.length ac _ hal).mono ?_; rintro e w3 ⟨rfl, hk⟩)
      | (go_at_call 12; refine (leafCheckR_any ak aA al.length ac _ hal).mono ?_; rintro e w3 ⟨rfl, hk⟩)
      | (go_at_call 13; refine (leafSame_any ak bk aA bA ac bc al bl _ _ _ (hya1.below (low4 (by assumption))) (hyb1.below (low4 (by assumption)))).mono ?_; rintro e w3 ⟨rfl, hk⟩)
      | (go_at_call 14; refine (leafSameR_any ak bk aA bA ac bc al bl _ _ _ (hya1.below (low4 (by assumption))) (hyb1.below (low4 (by assumption)))).mono ?_; rintro e w3 ⟨rfl, hk⟩)
      | (go_at_call 15; refine (leafSize_any ak aA al.length ac _).mono ?_; rintro e w3 ⟨rfl, hk⟩))
    have hl3 : Below w1.heap.size w1 w3 := low4 (by assumption)
    have hw3 : Below w.heap.size w w3 := hw1.trans (hl3.mono hs1)
    have ba3 := ba.below hl3
    have hya3 := hya1.below hl3
    have hs3 := hw3.size
    have hs13 := hl3.size
    have hlB := ba3.lt
    clear a0 a1 a2 a3 hl3 ba bb hya1 hyb1 hw1 hr1 hk
    go_wp2_with fail
    refine (leafClone_any ak aA ac al _ w3 hya3 hal).mono ?_
    rintro e w4 ⟨A4, c4, l4, rfl, hl4, ho4, hb4⟩
    have hw4 : Below w.heap.size w w4 := hw3.trans (hb4.mono hs3)
    have ba4 := ba3.below hb4
    have hya4 := hya3.below hb4
    have hs4 := hb4.size
    have hxc := Blk.new w4 24 #[.int .i64 ak, .slice A4 l4.length c4]
    have hyx := hya4.alloc (.cells #[.int .i64 ak, .slice A4 l4.length c4] 24)
    have hox := ho4.alloc (.cells #[.int .i64 ak, .slice A4 l4.length c4] 24)
    have hwx := hw4.alloc (by omega) (.cells #[.int .i64 ak, .slice A4 l4.length c4] 24)
    have bax := ba4.alloc (.cells #[.int .i64 ak, .slice A4 l4.length c4] 24)
    have hcx : (w4.alloc (.cells #[.int .i64 ak, .slice A4 l4.length c4] 24)).cell? ⟨w.heap.size, 1, none⟩ = some (.slice aA al.length ac) := bax.cell 1
    have hcB : w4.heap.size < (w4.alloc (.cells #[.int .i64 ak, .slice A4 l4.length c4] 24)).heap.size := by simp
    go_wp2_with fail
    generalize w4.alloc (.cells #[.int .i64 ak, .slice A4 l4.length c4] 24) = V at *
    refine (leafOf_any aA ac al _ V hyx hal).mono ?_
    rintro e w5 ⟨A5, c5, l5, rfl, hl5, ho5, hb5⟩
    have hw5 : Below w.heap.size w w5 := hwx.trans (hb5.mono (by omega))
    have ba5 := bax.below hb5
    have bc5 := hxc.below hb5
    have hy5 := hyx.below hb5
    have ho45 := hox.below hb5
    have hs5 := hb5.size
    clear hya3 ba3 hw3 ba4 hya4 hcx bax hxc hyx hox hwx
    have hxf := Blk.new w5 24 #[.int .i64 1, .slice A5 l5.length c5]
    have baf := ba5.alloc (.cells #[.int .i64 1, .slice A5 l5.length c5] 24)
    have bcf := bc5.alloc (.cells #[.int .i64 1, .slice A5 l5.length c5] 24)
    have hyf := hy5.alloc (.cells #[.int .i64 1, .slice A5 l5.length c5] 24)
    have hof4 := ho45.alloc (.cells #[.int .i64 1, .slice A5 l5.length c5] 24)
    have hof5 := ho5.alloc (.cells #[.int .i64 1, .slice A5 l5.length c5] 24)
    have hwf := hw5.alloc (by omega) (.cells #[.int .i64 1, .slice A5 l5.length c5] 24)
    have hfB : w5.heap.size < (w5.alloc (.cells #[.int .i64 1, .slice A5 l5.length c5] 24)).heap.size := by simp
    have x0 : (w5.alloc (.cells #[.int .i64 1, .slice A5 l5.length c5] 24)).cell? ⟨w.heap.size, 0, none⟩ = some (.int .i64 ak) := baf.cell 0
    have x1 : (w5.alloc (.cells #[.int .i64 1, .slice A5 l5.length c5] 24)).cell? ⟨w.heap.size, 1, none⟩ = some (.slice aA al.length ac) := baf.cell 1
    have x2 : (w5.alloc (.cells #[.int .i64 1, .slice A5 l5.length c5] 24)).cell? ⟨w4.heap.size, 0, none⟩ = some (.int .i64 ak) := bcf.cell 0
    have x3 : (w5.alloc (.cells #[.int .i64 1, .slice A5 l5.length c5] 24)).cell? ⟨w4.heap.size, 1, none⟩ = some (.slice A4 l4.length c4) := bcf.cell 1
    go_wp2_with fail
    clear x0 x1 x2 x3
    generalize w5.alloc (.cells #[.int .i64 1, .slice A5 l5.length c5] 24) = U at *
    refine (leafSameR_any ak ak A4 aA c4 ac l4 al _ _ U hof4.rd hyf).mono ?_
    have e1 := Lib.hid (show (ak == ak && l4 == al) = true by rw [hl4.out]; simp)
    rw [e1.out]
    rintro e w6 ⟨rfl, hb6⟩
    have hw6 : Below w.heap.size w w6 := hwf.trans (hb6.mono hwf.size)
    have ba6 := baf.below hb6
    have bc6 := bcf.below hb6
    have bf6 := hxf.below hb6
    have ya6 := hyf.below hb6
    have o46 := hof4.below hb6
    have o56 := hof5.below hb6
    have hs6 := hb6.size
    clear baf bcf hxf hyf hof4 hof5 hwf
    have y0 : w6.cell? ⟨w5.heap.size, 0, none⟩ = some (.int .i64 1) := bf6.cell 0
    have y1 : w6.cell? ⟨w5.heap.size, 1, none⟩ = some (.slice A5 l5.length c5) := bf6.cell 1
    have y2 : w6.cell? ⟨w.heap.size, 1, none⟩ = some (.slice aA al.length ac) := ba6.cell 1
    have k5 := conv_by o56.rd c5
    have ka := conv_by ya6 ac
    obtain rfl : l5 = al := hl5.out
    have hq0 : ∀ w : World, (Instr.field 24 (.agg #[.int .i64 2, .slice none 0 0]) 0).run Try.prog w = .ok (.int .i64 2) w := fun _ => by kernel_rfl
    have hq1 : ∀ w : World, (Instr.field 24 (.agg #[.int .i64 2, .slice none 0 0]) 1).run Try.prog w = .ok (.slice none 0 0) w := fun _ => by kernel_rfl
    go_wp2_with fail
    refine (leafDir_any _).mono ?_
    rintro e w7 ⟨rfl, hb7⟩
    go_wp2_with fail
    refine (leafDir_any _).mono ?_
    rintro e w8 ⟨rfl, hb8⟩
    have hb78 : Below w6.heap.size w6 w8 := hb7.trans (hb8.mono hb7.size)
    have hw8 : Below w.heap.size w w8 := hw6.trans (hb78.mono hw6.size)
    have ba8 := ba6.below hb78
    have bc8 := bc6.below hb78
    have bf8 := bf6.below hb78
    have ya8 := ya6.below hb78
    have o48 := o46.below hb78
    have o58 := o56.below hb78
    have hs8 := hb78.size
    clear y0 y1 y2 k5 ka ba6 bc6 bf6 ya6 o46 o56 hw6 hb7 hb8 hb78
    have z1 : w8.cell? ⟨w.heap.size, 1, none⟩ = some (.slice aA l5.length ac) := ba8.cell 1
    have z1' : (w8.alloc (.cells #[] 5)).cell? ⟨w.heap.size, 1, none⟩ = some (.slice aA l5.length ac) := (ba8.alloc _).cell 1
    have hs8' := hw8.size
    go_wp2_with (at_builtin; refine wpList_append_by rfl (.tmp 76) (.tmp 78) rfl (v := .slice (some ⟨w8.heap.size, 0, none⟩) 0 0) rfl (OwB.lit0 w8 (Nat.le_refl _)) rfl (ya8.alloc _) (by simp; omega) (by simp) ?_; intro L9 A9 c9 w9 hL9 hown hg hat; have hf9 : Fr (fun _ => False) w8 w9 := (Fr.of_below ((Below.refl _ _).alloc (Nat.le_refl _) _) (fun _ => False)).trans (Fr.of_grown hg (S := fun x => x = w8.heap.size) (fun x _ e => by simpa [Value.ownBlock] using e.symm)) (fun x hx e => by omega); have y2 : w9.cell? ⟨w4.heap.size, 1, none⟩ = some (.slice A4 l4.length c4) := (bc8.fr hf9 (fun h => h)).cell 1)
    have hs9 := hf9.size
    have bf9 := bf8.fr hf9 (fun h => h)
    have o49 := o48.fr hf9 (fun _ _ h => h)
    have o59 := o58.fr hf9 (fun _ _ h => h)
    have ya9 := ya8.fr hf9 (fun _ _ _ h => h)
    have bx4 := bc8.fr hf9 (fun h => h)
    have ba9 := ba8.fr hf9 (fun h => h)
    have hw9 : Below w.heap.size w w9 := hw8.trans (hf9.below hs8' (fun _ _ h => h))
    have hab4 := own_ablk ho4
    have hl4n : l4.length ≤ 140737488355328 := by rw [hl4.out]; exact hal
    have hab5 := own_ablk ho5
    clear z1' y2 bf8 o48 o58 ya8 bc8 hf9 hw8 hg hat ho4 ho5 ho45 bc5 ba8 hw5 hw4
    go_loopw [83] (fun iv wr => ∃ (i : Nat) (L : List UInt8), i ≤ l4.length ∧ iv = .int .i64 (i : Int) ∧ Hid (L.length = l4.length) ∧ OwB wr w3.heap.size (.slice A4 L.length c4) L ∧ Fr (fun k => ablk A4 = some k) w9 wr) (fun iv _ => l4.length - (intOf iv).toNat)
    case atStart => exact ⟨0, l4, Nat.zero_le _, rfl, rfl, o49, Fr.refl _ _⟩
    case round =>
      obtain ⟨i, L, hi, rfl, hLl, hoL, hfL⟩ := hrel
      by_cases hlt : i < l4.length
      · obtain ⟨g, rfl, hgb, hgl⟩ := hoL.block (by rw [hLl.out]; omega)
        have hiL : i < L.length := by rw [hLl.out]; exact hlt
        have gb := hab4 g rfl
        have kc := hoL.cellAt hiL
        have kf := hoL.frozenAt i
        have kb : wr.cell? ⟨w4.heap.size, 1, none⟩ = some (.slice (some ⟨g, 0, none⟩) l4.length c4) := (bx4.fr hfL (by simp [ablk]; omega)).cell 1
        have hput := hoL.put i (L[i] + 1)
        rw [← bv_inc] at hput
        have hfp : Fr (fun k => ablk (some ⟨g, 0, none⟩) = some k) w9 (wr.setCell ⟨g, i, none⟩ (.int .u8 (IntKind.u8.wrap ((L[i].toNat : Int) + 1)))) := hfL.setAt g i rfl _
        have hd := L[i].toNat_lt
        generalize L[i] = d at *
        unfold bv at kc
        have Hput := Lib.hid hput
        have Hfp := Lib.hid hfp
        have Hset : Hid ((L.set i (d + 1)).length = l4.length) := by show _ = _; rw [List.length_set]; exact hLl.out
        clear hput hfp
        go_wp2_with fail
        go_roundw
        case rel => exact ⟨i + 1, L.set i (d + 1), hlt, by go_num, Hset, Hput.out, Hfp.out⟩
        case measure => simp [intOf]; omega
      · have e : i = l4.length := by omega
        subst e
        clear hlt
        have hsA := hfL.size
        have bfA := bf9.fr hfL (fun h => by have := hab4 _ h; omega)
        have o5A := o59.fr hfL (fun g h1 h2 => by have := hab4 _ h2; have := (o59.lt g h1).1; omega)
        have o9A := hown.fr hfL (fun g h1 h2 => by have := hab4 _ h2; have := (hown.lt g h1).1; omega)
        have yaA := ya9.fr hfL (fun b h1 h2 h3 => by have := hab4 _ h3; omega)
        have baA := ba9.fr hfL (fun h => by have := hab4 _ h; omega)
        have hwA : Below w.heap.size w wr := hw9.trans (hfL.below (by omega) (fun b h1 h3 => by have := hab4 _ h3; omega))
        have y3 : wr.cell? ⟨w5.heap.size, 1, none⟩ = some (.slice A5 l5.length c5) := bfA.cell 1
        clear bf9 o49 o59 ya9 bx4 hw9 hfL hoL hown ba9
        have bx5 := bfA
        have habs : ∀ b, ablk A5 = some b → V.heap.size ≤ b ∧ b < w5.heap.size := hab5
        generalize wr = wA at *
        go_wp2_with fail
        go_loopw [97] (fun iv wr => ∃ (i : Nat) (L : List UInt8), i ≤ l5.length ∧ iv = .int .i64 (i : Int) ∧ Hid (L.length = l5.length) ∧ OwB wr V.heap.size (.slice A5 L.length c5) L ∧ Fr (fun k => ablk A5 = some k) wA wr) (fun iv _ => l5.length - (intOf iv).toNat)
        case atStart => exact ⟨0, l5, Nat.zero_le _, rfl, rfl, o5A, Fr.refl _ _⟩
        case round =>
          obtain ⟨i, L, hi, rfl, hLl, hoL, hfL⟩ := hrel
          by_cases hlt : i < l5.length
          · obtain ⟨g, rfl, hgb, hgl⟩ := hoL.block (by rw [hLl.out]; omega)
            have hiL : i < L.length := by rw [hLl.out]; exact hlt
            have gb := hab5 g rfl
            have kc := hoL.cellAt hiL
            have kf := hoL.frozenAt i
            have kb : wr.cell? ⟨w5.heap.size, 1, none⟩ = some (.slice (some ⟨g, 0, none⟩) l5.length c5) := (bx5.fr hfL (by simp [ablk]; omega)).cell 1
            have hput := hoL.put i (L[i] + 1)
            rw [← bv_inc] at hput
            have hfp : Fr (fun k => ablk (some ⟨g, 0, none⟩) = some k) wA (wr.setCell ⟨g, i, none⟩ (.int .u8 (IntKind.u8.wrap ((L[i].toNat : Int) + 1)))) := hfL.setAt g i rfl _
            have hd := L[i].toNat_lt
            generalize L[i] = d at *
            unfold bv at kc
            have Hput := Lib.hid hput
            have Hfp := Lib.hid hfp
            have Hset : Hid ((L.set i (d + 1)).length = l5.length) := by show _ = _; rw [List.length_set]; exact hLl.out
            clear hput hfp
            go_wp2_with fail
            go_roundw
            case rel => exact ⟨i + 1, L.set i (d + 1), hlt, by go_num, Hset, Hput.out, Hfp.out⟩
            case measure => simp [intOf]; omega
          · have e : i = l5.length := by omega
            subst e
            clear hlt
            have hsB := hfL.size
            have o9B := o9A.fr hfL (fun g h1 h2 => by have := hab5 _ h2; have := (o9A.lt g h1).1; omega)
            have yaB := yaA.fr hfL (fun b h1 h2 h3 => by have := hab5 _ h3; omega)
            have hwB : Below w.heap.size w wr := hwA.trans (hfL.below (by omega) (fun b h1 h3 => by have := hab5 _ h3; omega))
            have baB := baA.fr hfL (fun h => by have := hab5 _ h; omega)
            have k9 := conv_by o9B.rd c9
            have ka := conv_by yaB ac
            have m1 : wr.cell? ⟨w.heap.size, 1, none⟩ = some (.slice aA l5.length ac) := baB.cell 1
            obtain rfl : L9 = l5 := by rw [hL9.out]; rfl
            by_cases q0 : kind = 0
            · subst q0
              have hcn := (Blk.new wr 9 #[.string ⟨#[110, 111, 110, 101]⟩, .string ⟨#[102, 105, 108, 101]⟩, .string ⟨#[100, 105, 114]⟩]).cell 0
              go_wp2_with fail
              refine (leafName_any 0 _).mono ?_
              rintro e wN ⟨rfl, rfl⟩
              have hkn := Lib.hid (show kindN 0 = ⟨#[110, 111, 110, 101]⟩ from rfl)
              rw [hkn.out]
              go_wp2_with fail
              refine (lives07_any _).mono ?_
              rintro e wE ⟨rfl, hbE⟩
              go_wp2_with fail
              go_ret
              exact ⟨rfl, (hwB.alloc (by omega) _).trans (hbE.mono (by simp; omega))⟩
            · skip
              by_cases q1 : kind = 1
              · subst q1
                have hcn := (Blk.new wr 9 #[.string ⟨#[110, 111, 110, 101]⟩, .string ⟨#[102, 105, 108, 101]⟩, .string ⟨#[100, 105, 114]⟩]).cell 1
                go_wp2_with fail
                refine (leafName_any 1 _).mono ?_
                rintro e wN ⟨rfl, rfl⟩
                have hkn := Lib.hid (show kindN 1 = ⟨#[102, 105, 108, 101]⟩ from rfl)
                rw [hkn.out]
                go_wp2_with fail
                refine (lives07_any _).mono ?_
                rintro e wE ⟨rfl, hbE⟩
                go_wp2_with fail
                go_ret
                exact ⟨rfl, (hwB.alloc (by omega) _).trans (hbE.mono (by simp; omega))⟩
              · skip
                by_cases q2 : kind = 2
                · subst q2
                  have hcn := (Blk.new wr 9 #[.string ⟨#[110, 111, 110, 101]⟩, .string ⟨#[102, 105, 108, 101]⟩, .string ⟨#[100, 105, 114]⟩]).cell 2
                  go_wp2_with fail
                  refine (leafName_any 2 _).mono ?_
                  rintro e wN ⟨rfl, rfl⟩
                  have hkn := Lib.hid (show kindN 2 = ⟨#[100, 105, 114]⟩ from rfl)
                  rw [hkn.out]
                  go_wp2_with fail
                  refine (lives07_any _).mono ?_
                  rintro e wE ⟨rfl, hbE⟩
                  go_wp2_with fail
                  go_ret
                  exact ⟨rfl, (hwB.alloc (by omega) _).trans (hbE.mono (by simp; omega))⟩
                · skip
                  by_cases qn : kind < 0
                  · skip
                    go_wp2_with fail
                    refine (leafName_any kind _).mono ?_
                    rintro e wN ⟨rfl, rfl⟩
                    have hkn := Lib.hid (show kindN kind = ⟨#[]⟩ from by unfold kindN; rw [if_neg q0, if_neg q1, if_neg q2])
                    rw [hkn.out]
                    go_wp2_with fail
                    refine (lives07_any _).mono ?_
                    rintro e wE ⟨rfl, hbE⟩
                    go_wp2_with fail
                    go_ret
                    exact ⟨rfl, (hwB.alloc (by omega) _).trans (hbE.mono (by simp; omega))⟩
                  · have qp : 2 < kind := by omega
                    go_wp2_with fail
                    refine (leafName_any kind _).mono ?_
                    rintro e wN ⟨rfl, rfl⟩
                    have hkn := Lib.hid (show kindN kind = ⟨#[]⟩ from by unfold kindN; rw [if_neg q0, if_neg q1, if_neg q2])
                    rw [hkn.out]
                    go_wp2_with fail
                    refine (lives07_any _).mono ?_
                    rintro e wE ⟨rfl, hbE⟩
                    go_wp2_with fail
                    go_ret
                    exact ⟨rfl, (hwB.alloc (by omega) _).trans (hbE.mono (by simp; omega))⟩
end Go.Proofs.Ytofllgmieciakab
