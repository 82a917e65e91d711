/- tenderref07.Bytes. -/
import Derived.Test.YtofllgmieciakabLeafReadR
namespace Go.Proofs.Ytofllgmieciakab
open Go.RowKit

set_option maxHeartbeats 1000000 in
theorem leafBytes_any (k : Int) (A : Option Addr) (c : Nat) (l : List UInt8) (Z : Nat → Prop) (w : World) (h : By w Z A l) (hl : l.length ≤ 140737488355328) (hk : -9223372036854775808 ≤ k ∧ k < 9223372036854775808) :
    Calls Try.prog 26 #[.agg #[.int .i64 k, .slice A l.length c]] w fun e w' => ∃ (A' : Option Addr) (c' : Nat) (l' : List UInt8), e = .returned (.slice A' l'.length c') ∧ Hid (l' = leafB k l) ∧ OwB w' w.heap.size (.slice A' l'.length c') l' ∧ Below w.heap.size w w' := by
  have b0 := Blk.new w 24 #[.int .i64 k, .slice A l.length c]
  have hlow0 : Below w.heap.size w (w.alloc (.cells #[.int .i64 k, .slice A l.length c] 24)) := (Below.refl _ _).alloc (Nat.le_refl _) _
  have hy := h.below hlow0
  by_cases hck : checkN k l.length = 0
  · obtain ⟨hk3, hn0, hl4⟩ := checkN_ok hck
    by_cases hk1 : k = 1
    · rw [leafB_file hck hk1]
      subst hk1
      have htxt : ∀ w (h : By w Z A l), Calls Try.prog 52 #[.slice A l.length c] w fun e w' => ∃ v, e = .returned v ∧ OwB w' w.heap.size v (textB l) ∧ Below w.heap.size w w' := fun w h => refText_any A c l Z w h (by omega)
      have HTXT := Lib.hid htxt
      have hol := numB_len l.length
      have htl : (textB l).length ≤ 9 + l.length := by unfold textB; rw [List.length_append]; omega
      clear htxt hol
      generalize textB l = T at *
      have hnum : ∀ w : World, Calls Try.prog 51 #[.int .u64 1] w fun e w' => ∃ v, e = .returned v ∧ OwB w' w.heap.size v (numB 1) ∧ Below w.heap.size w w' := fun w => refNum_any 1 w (by omega)
      have HNUM := Lib.hid hnum
      have hnl := numB_len 1
      clear hnum
      generalize numB 1 = N at *
      go_enter Try.func26, Try.ntmps26
      go_wp2_with fail
      refine (leafCheckR_any 1 A l.length c _ hl).mono ?_
      rintro e w1 ⟨rfl, hb1⟩
      have b1 := b0.below hb1
      have hy1 := hy.below hb1
      have hs1 := hb1.size
      have hw1 : Below w.heap.size w w1 := hlow0.trans (hb1.mono (by simp))
      have hsw := hw1.size
      have q0 : w1.cell? ⟨w.heap.size, 0, none⟩ = some (.int .i64 1) := b1.cell 0
      simp at hs1
      clear b0 hb1 hy hlow0 h
      rw [hck]
      go_wp2_with fail
      refine (HNUM.out _).mono ?_
      rintro e w2 ⟨v2, rfl, ho2, hb2⟩
      obtain ⟨A2, c2, rfl, _⟩ := ho2.form
      have b2 := b1.below hb2
      have hy2 := hy1.below hb2
      have r0 : w2.cell? ⟨w.heap.size, 0, none⟩ = some (.int .i64 1) := b2.cell 0
      have r1 : w2.cell? ⟨w.heap.size, 1, none⟩ = some (.slice A l.length c) := b2.cell 1
      go_wp2_with fail
      refine (HTXT.out w2 hy2).mono ?_
      rintro e w3 ⟨v3, rfl, ho3, hb3⟩
      have h23 := ho2.below hb3
      obtain ⟨A3, c3, rfl, _⟩ := ho3.form
      have hs2 := hb2.size
      have hs3 := hb3.size
      go_wp2_with (at_builtin; refine wpList_append_by rfl (.tmp 15) (.tmp 18) rfl (v := .slice A2 N.length c2) rfl h23 rfl ho3.rd (by omega) (by omega) ?_; intro L4 A4 c4 w4 hL4 hown hg hat)
      go_ret
      refine ⟨A4, c4, L4, rfl, hL4, own_base hown (fun g hg2 => Nat.le_trans hsw (hown.lt g hg2).1), ?_⟩
      exact (hw1.trans (hb2.mono hsw)).trans ((hb3.mono (by omega)).trans ((Fr.of_grown hg (S := fun x => w1.heap.size ≤ x) (fun k _ e => (h23.lt k e).1)).below (by omega) (fun k hk e => by omega)))
    · rw [leafB_other hck hk1]
      have hk1b : (k == 1) = false := by simpa using hk1
      obtain ⟨n, rfl⟩ : ∃ n : Nat, k = n := ⟨k.toNat, by omega⟩
      rw [Int.toNat_natCast]
      clear hn0
      have hnum : ∀ w : World, Calls Try.prog 51 #[.int .u64 (n : Int)] w fun e w' => ∃ v, e = .returned v ∧ OwB w' w.heap.size v (numB n) ∧ Below w.heap.size w w' := fun w => refNum_any n w (by omega)
      have HNUM := Lib.hid hnum
      have hnl := numB_len n
      clear hnum
      generalize numB n = N at *
      go_enter Try.func26, Try.ntmps26
      go_wp2_with fail
      refine (leafCheckR_any n A l.length c _ hl).mono ?_
      rintro e w1 ⟨rfl, hb1⟩
      have b1 := b0.below hb1
      have hy1 := hy.below hb1
      have hs1 := hb1.size
      have hw1 : Below w.heap.size w w1 := hlow0.trans (hb1.mono (by simp))
      have hsw := hw1.size
      have q0 : w1.cell? ⟨w.heap.size, 0, none⟩ = some (.int .i64 n) := b1.cell 0
      simp at hs1
      clear b0 hb1 hy hlow0 h
      rw [hck]
      go_wp2_with fail
      refine (HNUM.out _).mono ?_
      rintro e w2 ⟨v2, rfl, ho2, hb2⟩
      obtain ⟨A2, c2, rfl, _⟩ := ho2.form
      have b2 := b1.below hb2
      have r0 : w2.cell? ⟨w.heap.size, 0, none⟩ = some (.int .i64 n) := b2.cell 0
      go_wp2_with fail
      go_ret
      exact ⟨A2, c2, N, rfl, rfl, own_base ho2 (fun g hg => Nat.le_trans hsw (ho2.lt g hg).1), hw1.trans (hb2.mono hsw)⟩
  · rw [leafB_bad hck]
    have hnum : ∀ w : World, Calls Try.prog 51 #[.int .u64 0] w fun e w' => ∃ v, e = .returned v ∧ OwB w' w.heap.size v (numB 0) ∧ Below w.heap.size w w' := fun w => refNum_any 0 w (by omega)
    have HNUM := Lib.hid hnum
    have hnl := numB_len 0
    clear hnum
    generalize numB 0 = N at *
    go_enter Try.func26, Try.ntmps26
    go_wp2_with fail
    refine (leafCheckR_any k A l.length c _ hl).mono ?_
    rintro e w1 ⟨rfl, hb1⟩
    have b1 := b0.below hb1
    have hy1 := hy.below hb1
    have hs1 := hb1.size
    have hw1 : Below w.heap.size w w1 := hlow0.trans (hb1.mono (by simp))
    have hsw := hw1.size
    have q0 : w1.cell? ⟨w.heap.size, 0, none⟩ = some (.int .i64 k) := b1.cell 0
    simp at hs1
    clear b0 hb1 hy hlow0 h
    have hckb : (checkN k l.length != 0) = true := by simpa using hck
    go_wp2_with fail
    refine (HNUM.out _).mono ?_
    rintro e w2 ⟨v2, rfl, ho2, hb2⟩
    obtain ⟨A2, c2, rfl, _⟩ := ho2.form
    go_wp2_with fail
    go_ret
    exact ⟨A2, c2, N, rfl, rfl, own_base ho2 (fun g hg => Nat.le_trans hsw (ho2.lt g hg).1), hw1.trans (hb2.mono hsw)⟩
end Go.Proofs.Ytofllgmieciakab
