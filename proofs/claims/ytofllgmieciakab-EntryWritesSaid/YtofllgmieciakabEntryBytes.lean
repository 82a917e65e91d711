/- tenderref21.Bytes. -/
import Derived.Test.YtofllgmieciakabEntryWrite
import Derived.Test.YtofllgmieciakabLeafBytes
namespace Go.Proofs.Ytofllgmieciakab
open Go.RowKit

set_option maxRecDepth 100000 in
set_option maxHeartbeats 1000000 in
theorem refEntryBytes_any (pl : List UInt8) (n : Nat) (k : Int) (A : Option Addr) (c : Nat) (l : List UInt8) (Z : Nat → Prop) (w : World) (h : By w Z A l) (hl : l.length ≤ 35184372088832) (hp : pl.length ≤ 35184372088832) (hn : n < 18446744073709551616) (hk : -9223372036854775808 ≤ k ∧ k < 9223372036854775808) :
    Calls Try.prog 42 #[.agg #[.string ⟨⟨pl⟩⟩, .int .u64 (n : Int), .int .i64 k, .slice A l.length c]] w fun e w' => ∃ (A' : Option Addr) (c' : Nat) (l' : List UInt8), e = .returned (.slice A' l'.length c') ∧ Hid (l' = entB pl l (n : Int) k) ∧ OwB w' w.heap.size (.slice A' l'.length c') l' ∧ Below w.heap.size w w' := by
  replace h := h.mono (Z' := fun b => b < w.heap.size) (fun b h1 _ => h1)
  have b0 := Blk.new w 58 #[.string ⟨⟨pl⟩⟩, .int .u64 (n : Int), .int .i64 k, .slice A l.length c]
  have hlow0 : Below w.heap.size w (w.alloc (.cells #[.string ⟨⟨pl⟩⟩, .int .u64 (n : Int), .int .i64 k, .slice A l.length c] 58)) := (Below.refl _ _).alloc (Nat.le_refl _) _
  have hy := h.below hlow0
  have HCK := Lib.hid (fun w => refEntryCheck_any ⟨⟨pl⟩⟩ (n : Int) k A l.length c w (by show pl.length ≤ _; omega) (by omega) (by omega))
  rw [show tl ⟨⟨pl⟩⟩ = pl from rfl] at HCK
  by_cases hck : checkE pl (n : Int) k l.length = 0
  · rw [entB_good hck, Int.toNat_natCast]
    rw [hck] at HCK
    clear hck
    have htxt : ∀ w A c Z (h : By w Z A pl), Calls Try.prog 52 #[.slice A pl.length c] w fun e w' => ∃ v, e = .returned v ∧ OwB w' w.heap.size v (textB pl) ∧ Below w.heap.size w w' := fun w A c Z h => refText_any A c pl Z w h (by omega)
    have HTXT := Lib.hid htxt
    have hol := numB_len pl.length
    have htl : (textB pl).length ≤ 9 + pl.length := by unfold textB; rw [List.length_append]; omega
    clear htxt hol
    generalize textB pl = T at *
    have hnum : ∀ w : World, Calls Try.prog 51 #[.int .u64 (n : Int)] w fun e w' => ∃ v, e = .returned v ∧ OwB w' w.heap.size v (numB n) ∧ Below w.heap.size w w' := fun w => refNum_any n w (by omega)
    have HNUM := Lib.hid hnum
    have hnl := numB_len n
    clear hnum
    generalize numB n = N at *
    have hlf := leafB_len k l
    have HLF := Lib.hid (fun W (h : By W (fun b => b < w.heap.size) A l) => leafBytes_any k A c l _ W h (by omega) hk)
    generalize leafB k l = F at *
    go_enter Try.func42, Try.ntmps42
    go_wp2_with fail
    refine (HCK.out _).mono ?_
    rintro e w1 ⟨rfl, hb1⟩
    have b1 := b0.below hb1
    have hy1 := hy.below hb1
    have hs1 := hb1.size
    have hw1 : Below w.heap.size w w1 := hlow0.trans (hb1.mono (by simp))
    have hsw := hw1.size
    have q0 : w1.cell? ⟨w.heap.size, 0, none⟩ = some (.string ⟨⟨pl⟩⟩) := b1.cell 0
    simp at hs1
    clear b0 hb1 hy hlow0 h HCK
    obtain ⟨cc, W2, hcv, hby, hcc1, hcc2, hlow2, hs2⟩ := conv_str w1 pl (by simp only [maxLen]; omega)
    go_wp2_with fail
    have b2 := b1.below hlow2
    have hy2 := hy1.below hlow2
    have hw2 := hw1.trans (hlow2.mono hsw)
    have hsw2 := hw2.size
    clear hcv b1 hy1 hw1 q0 hlow2
    refine (HTXT.out W2 _ _ _ hby).mono ?_
    rintro e w3 ⟨v3, rfl, ho3, hb3⟩
    obtain ⟨A3, c3, rfl, _⟩ := ho3.form
    have b3 := b2.below hb3
    have hy3 := hy2.below hb3
    have hw3 := hw2.trans (hb3.mono hsw2)
    have hsw3 := hw3.size
    have q1 : w3.cell? ⟨w.heap.size, 1, none⟩ = some (.int .u64 (n : Int)) := b3.cell 1
    have ho3' : OwB w3 w.heap.size (.slice A3 T.length c3) T := own_base (base' := w.heap.size) ho3 (fun g hg => by have := (ho3.lt g hg).1; omega)
    have hbl := b2.lt
    have hg3 : ∀ g, (Value.slice A3 T.length c3).ownBlock = some g → w.heap.size < g := fun g hg => by have := (ho3.lt g hg).1; omega
    clear b2 hy2 hby hb3 ho3
    go_wp2_with fail
    refine (HNUM.out _).mono ?_
    rintro e w4 ⟨v4, rfl, ho4, hb4⟩
    obtain ⟨A4, c4, rfl, _⟩ := ho4.form
    have b4 := b3.below hb4
    have hy4 := hy3.below hb4
    have h34 := ho3'.below hb4
    have hw4 := hw3.trans (hb4.mono hsw3)
    have hsw4 := hw4.size
    clear b3 hy3 ho3' hb4 q1
    go_wp2_with (at_builtin; refine wpList_append_by rfl (.tmp 11) (.tmp 14) rfl (v := .slice A3 T.length c3) rfl h34 rfl ho4.rd (by omega) (by omega) ?_; intro L5 A5 c5 w5 hL5 hown5 hg5 hat5; have hf5 := Fr.of_grown hg5 (S := fun x => w.heap.size < x) (fun k _ e => hg3 k e); have b5 := b4.fr hf5 (by omega); have hy5 := hy4.fr hf5 (fun b _ hz e => by omega); have hw5 := hw4.trans (hf5.below hsw4 (fun k hk e => by omega)); have hsw5 := hw5.size; have hL5l : L5.length ≤ 9 + pl.length + 9 := (by rw [hL5.out, List.length_append]; omega); have q2 : w5.cell? ⟨w.heap.size, 2, none⟩ = some (.int .i64 k) := b5.cell 2; have q3 : w5.cell? ⟨w.heap.size, 3, none⟩ = some (.slice A l.length c) := b5.cell 3)
    clear b4 hy4 h34 hg5 hf5
    refine (HLF.out _ hy5).mono ?_
    rintro e w6 ⟨A6, c6, l6, rfl, hl6, ho6, hb6⟩
    have hown6 := hown5.below hb6
    have hw6 := hw5.trans (hb6.mono hsw5)
    have hsw6 := hw6.size
    have hl6l : l6.length ≤ 18 + l.length := by rw [hl6.out]; exact hlf
    go_wp2_with (at_builtin; refine wpList_append_by rfl (.tmp 16) (.tmp 19) rfl (v := .slice A5 L5.length c5) rfl hown6 rfl ho6.rd (by omega) (by omega) ?_; intro L7 A7 c7 w7 hL7 hown7 hg7 hat7)
    go_ret
    refine ⟨A7, c7, L7, rfl, ?_, hown7, ?_⟩
    · show _ = _
      rw [hL7.out, hL5.out, hl6.out, List.append_assoc]
    · exact hw6.trans ((Fr.of_grown hg7 (S := fun x => w.heap.size ≤ x) (fun k _ e => (hown6.lt k e).1)).below hsw6 (fun k hk e => by omega))
  · rw [entB_bad hck]
    have hckb : (checkE pl (n : Int) k l.length != 0) = true := by simpa using hck
    clear hck
    generalize checkE pl (n : Int) k l.length = C at *
    go_enter Try.func42, Try.ntmps42
    go_wp2_with fail
    refine (HCK.out _).mono ?_
    rintro e w1 ⟨rfl, hb1⟩
    have hw1 : Below w.heap.size w w1 := hlow0.trans (hb1.mono (by simp))
    go_wp2_with fail
    go_ret
    exact ⟨none, 0, [], rfl, Lib.hid rfl, OwB.nil _ _, hw1⟩
end Go.Proofs.Ytofllgmieciakab
