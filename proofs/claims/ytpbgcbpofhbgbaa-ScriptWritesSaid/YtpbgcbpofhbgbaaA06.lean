/- tenderref41.num, act: the document's bytes of an act. -/
import Derived.Test.YtpbgcbpofhbgbaaA05
import Derived.Tactics2

namespace Go.Proofs.Ytpbgcbpofhbgbaa
open Go.RowKit

def i64v (n : Nat) : Value := .int .i64 (n : Int)
set_option maxHeartbeats 400000 in
theorem numR_any (A : Option Addr) (c : Nat) (ns : List Nat) (Z : Nat → Prop) (w : World) (hr : Rd w Z 1 A ns.length (ns.map i64v)) (hn : ∀ n ∈ ns, n < 9223372036854775808) (hl : ns.length ≤ 1000) :
    Calls Try.prog 78 #[.slice A ns.length c] w fun e w' => ∃ (B : Option Addr) (d : Nat) (L : List UInt8), e = .returned (.slice B L.length d) ∧ Hid (L = ns.flatMap numB) ∧ OwB w' w.heap.size (.slice B L.length d) L ∧ Below w.heap.size w w' := by
  go_enter Try.func78, Try.ntmps78
  go_wp2_with fail
  go_loopw [3, 4] (fun bv_ iv wr => ∃ (i : Nat) (L : List UInt8) (B : Option Addr) (d : Nat), i ≤ ns.length ∧ iv = .int .i64 (i : Int) ∧ bv_ = .slice B L.length d ∧ Hid (L = [] ++ (ns.take i).flatMap numB) ∧ OwB wr w.heap.size (.slice B L.length d) L ∧ Below w.heap.size w wr) (fun _ iv _ => ns.length - (intOf iv).toNat)
  case atStart => exact ⟨0, [], none, 0, Nat.zero_le _, rfl, rfl, by show _ = _; simp, OwB.nil _ _, Below.refl _ _⟩
  case round =>
    obtain ⟨i, L, B, d, hi, rfl, rfl, hL, hown, hb⟩ := hrel
    have hsz := hb.size
    by_cases hlt : i < ns.length
    · obtain ⟨b, off, rfl, _, _, hc⟩ := (hr.below hb).atm hlt
      have hx := hn _ (List.getElem_mem hlt)
      have hll : L.length ≤ 9 * i := by rw [hL.out, List.nil_append]; exact flat9t ns i
      have HLn := Lib.hid (flat_take (f := numB) hlt hL.out)
      clear hL
      generalize ns[i] = x at *
      unfold i64v at hc
      have hw : IntKind.u64.wrap (x : Int) = (x : Int) := u64_wrap (by omega)
      have n1 := numB_len x
      go_wp2_with fail
      refine (refNum_any x _ (by omega)).mono ?_
      rintro e w1 ⟨v1, rfl, h1, hb1⟩
      obtain ⟨A1, c1, rfl, _⟩ := h1.form
      have ho1 := hown.below hb1
      have hs1 := hb1.size
      go_wp2_with (at_builtin; refine wpList_append_by rfl (.tmp 11) (.tmp 17) rfl (v := .slice B L.length d) rfl ho1 rfl h1.rd (by omega) (by omega) ?_; intro L2 A2 c2 w2 hL2 hown2 hg hat)
      have hf := Fr.of_grown hg (S := fun x => w.heap.size ≤ x) (fun k _ e => (ho1.lt k e).1)
      have hlow := (hb.trans (hb1.mono hsz)).trans (hf.below (by omega) (fun k hk e => by omega))
      go_roundw
      case rel => exact ⟨i + 1, L2, A2, c2, hlt, by go_num, rfl, by show _ = _; rw [hL2.out, HLn.out], hown2, hlow⟩
      case measure => simp [intOf]; omega
    · have e : i = ns.length := by omega
      subst e
      go_wp2_with fail
      go_ret
      exact ⟨B, d, L, rfl, by show _ = _; rw [hL.out, List.take_length, List.nil_append], hown, hb⟩
/-- where the act's bytes are being made: the box as it was, a row of the call's own -/
structure AR (w : World) (t : TypeId) (cs : Array Value) (B : Option Addr) (d : Nat) (L : List UInt8) (w' : World) : Prop where
  box : Blk w' w.heap.size t cs
  own : OwB w' w.heap.size (.slice B L.length d) L
  low : Below w.heap.size w w'
theorem AR.below {w w1 w2 : World} {t : TypeId} {cs : Array Value} {B : Option Addr} {d : Nat} {L : List UInt8} (h : AR w t cs B d L w1) (k : Below w1.heap.size w1 w2) : AR w t cs B d L w2 := ⟨h.box.below k, h.own.below k, h.low.trans (k.mono h.low.size)⟩
theorem AR.grown {w w1 w2 : World} {t : TypeId} {cs : Array Value} {B B' : Option Addr} {d d' : Nat} {L L' : List UInt8} (h : AR w t cs B d L w1) (ht : 5 ≠ t) (hg : w1.grownBy w2 (Value.slice B L.length d).ownBlock) (ho : OwB w2 w.heap.size (.slice B' L'.length d') L') : AR w t cs B' d' L' w2 :=
  ⟨h.box.grown hg (Blk.own_ne h.box h.own ht), ho, h.low.trans ((Fr.of_grown hg (S := fun x => w.heap.size ≤ x) (fun k _ e => (h.own.lt k e).1)).below h.low.size (fun k hk e => by omega))⟩


set_option maxRecDepth 100000 in
set_option maxHeartbeats 4000000 in
theorem act_any (v : AV) (Z : Nat → Prop) (w : World) (h : v.ok w Z) (hr : rightA v.a = true) :
    Calls Try.prog 79 #[v.val] w fun e w' => ∃ (B : Option Addr) (d : Nat) (L : List UInt8), e = .returned (.slice B L.length d) ∧ Hid (L = actB v.a) ∧ OwB w' w.heap.size (.slice B L.length d) L ∧ Below w.heap.size w w' := by
  obtain ⟨Y, hY⟩ : ∃ Y, Y = actB v.a := ⟨_, rfl⟩
  rw [← hY]
  have HY := Lib.hid hY
  clear hY
  have hfit := h.fit
  obtain ⟨hvx, hvk, hvc, _⟩ := h
  have hrp := right_parts hr
  obtain ⟨⟨ak, as_, an, ab_, am, aek, ⟨⟨pl⟩⟩, ⟨⟨tl_⟩⟩, x, kl, cl⟩, xA, xc, kA, kc, cA, cc⟩ := v
  have hm := hfit.m
  have hcx : x.length ≤ 4096 := hrp.2.2.2.2.2.2.1.2.2.2
  unfold AV.val
  dsimp only at hvx hvk hvc hrp hm HY ⊢
  clear hfit hr
  obtain ⟨h1_, h2_, h3_, h4_, h5_, h6_, ⟨h7_, h8_, h9_, _⟩, hkf, hcf⟩ := hrp
  obtain ⟨k0, rfl⟩ : ∃ k : Nat, ak = k := ⟨ak.toNat, by omega⟩
  obtain ⟨k1, rfl⟩ : ∃ k : Nat, as_ = k := ⟨as_.toNat, by omega⟩
  obtain ⟨k2, rfl⟩ : ∃ k : Nat, an = (k : Int) - 1 := ⟨(an + 1).toNat, by omega⟩
  obtain ⟨k3, rfl⟩ : ∃ k : Nat, ab_ = (k : Int) - 1 := ⟨(ab_ + 1).toNat, by omega⟩
  obtain ⟨k4, rfl⟩ : ∃ k : Nat, am = k := ⟨am.toNat, by omega⟩
  obtain ⟨k5, rfl⟩ : ∃ k : Nat, aek = k := ⟨aek.toNat, by omega⟩
  replace h8_ : pl.length ≤ 96 := h8_
  replace h9_ : tl_.length ≤ 96 := h9_
  have HYe : Hid (Y = [k0, k1, k2, k3, k4, k5].flatMap numB ++ (textB pl ++ (textB tl_ ++ (textB x ++ (numB kl.length ++ (kl.flatMap keepB ++ (numB cl.length ++ cl.flatMap choB))))))) := by
    show _ = _
    rw [HY.out]
    unfold actB
    simp only [Int.toNat_natCast, Int.sub_add_cancel]
  clear HY
  have f9 := flat9 [k0, k1, k2, k3, k4, k5]
  go_enter Try.func79, Try.ntmps79
  go_wp2_with fail
  have hb0 : Below w.heap.size w (w.alloc (.cells #[.int .i64 (k0 : Int), .int .i64 (k1 : Int), .int .i64 ((k2 : Int) - 1), .int .i64 ((k3 : Int) - 1), .int .u32 (k4 : Int), .int .i64 (k5 : Int), .string ⟨⟨pl⟩⟩, .string ⟨⟨tl_⟩⟩, .slice xA x.length xc, .slice kA kl.length kc, .slice cA cl.length cc] 57)) := (by repeat (first | exact Below.refl _ _ | refine Below.alloc ?_ (by simp) _ | refine Below.setCell ?_ (by simp) _ | refine Below.drew ?_))
  have hz0 : (w.alloc (.cells #[.int .i64 (k0 : Int), .int .i64 (k1 : Int), .int .i64 ((k2 : Int) - 1), .int .i64 ((k3 : Int) - 1), .int .u32 (k4 : Int), .int .i64 (k5 : Int), .string ⟨⟨pl⟩⟩, .string ⟨⟨tl_⟩⟩, .slice xA x.length xc, .slice kA kl.length kc, .slice cA cl.length cc] 57)).heap.size = w.heap.size + 1 := World.size_alloc _ _
  have x0 := Blk.new w 57 #[.int .i64 (k0 : Int), .int .i64 (k1 : Int), .int .i64 ((k2 : Int) - 1), .int .i64 ((k3 : Int) - 1), .int .u32 (k4 : Int), .int .i64 (k5 : Int), .string ⟨⟨pl⟩⟩, .string ⟨⟨tl_⟩⟩, .slice xA x.length xc, .slice kA kl.length kc, .slice cA cl.length cc]
  generalize w.alloc (.cells #[.int .i64 (k0 : Int), .int .i64 (k1 : Int), .int .i64 ((k2 : Int) - 1), .int .i64 ((k3 : Int) - 1), .int .u32 (k4 : Int), .int .i64 (k5 : Int), .string ⟨⟨pl⟩⟩, .string ⟨⟨tl_⟩⟩, .slice xA x.length xc, .slice kA kl.length kc, .slice cA cl.length cc] 57) = W0 at *
  have ha0 : Below W0.heap.size W0 (W0.alloc (.cells #[.int .i64 (k0 : Int), .int .i64 (k1 : Int), .int .i64 (k2 : Int), .int .i64 (k3 : Int), .int .i64 (k4 : Int), .int .i64 (k5 : Int)] 3)) := (by repeat (first | exact Below.refl _ _ | refine Below.alloc ?_ (by simp) _ | refine Below.setCell ?_ (by simp) _ | refine Below.drew ?_))
  refine (numR_any _ _ [k0, k1, k2, k3, k4, k5] _ _ (Rd.lit (w := W0) (size := 1) rfl (by simp) hz0.symm) (by simp; omega) (by simp)).mono ?_
  rintro e w1 ⟨B1, d1, L1, rfl, hE1, ho1, hb1⟩
  have hl01 := ha0.trans (hb1.mono ha0.size)
  have a1 : AR w 57 #[.int .i64 (k0 : Int), .int .i64 (k1 : Int), .int .i64 ((k2 : Int) - 1), .int .i64 ((k3 : Int) - 1), .int .u32 (k4 : Int), .int .i64 (k5 : Int), .string ⟨⟨pl⟩⟩, .string ⟨⟨tl_⟩⟩, .slice xA x.length xc, .slice kA kl.length kc, .slice cA cl.length cc] B1 d1 L1 w1 := ⟨x0.below hl01, own_base ho1 (fun g hg => by have q1 := (ho1.lt g hg).1; have q2 : (W0.alloc (.cells #[.int .i64 (k0 : Int), .int .i64 (k1 : Int), .int .i64 (k2 : Int), .int .i64 (k3 : Int), .int .i64 (k4 : Int), .int .i64 (k5 : Int)] 3)).heap.size = W0.heap.size + 1 := World.size_alloc _ _; have q3 := Nat.le_trans (Nat.le_of_eq q2.symm) q1; omega), hb0.trans (hl01.mono hb0.size)⟩
  have l1 : L1.length ≤ 54 := by rw [hE1.out]; simpa using f9
  clear ho1 hb1 ha0 hl01 x0 hb0 hz0
  have s1 := a1.low.size
  have x1 := a1.box.lt
  have r6 : w1.cell? ⟨w.heap.size, 6, none⟩ = some (.string ⟨⟨pl⟩⟩) := a1.box.cell 6
  obtain ⟨cp, V, hcv, hby, hcp1, hcp2, hlowV, hsV⟩ := conv_str w1 pl (by simp only [maxLen]; omega)
  have HSV := Lib.hid hsV
  clear hsV
  go_wp2_with fail
  clear hcv r6
  refine (refText_any _ cp pl _ V hby (by omega)).mono ?_
  rintro e w2_ ⟨v2, rfl, h2, hb2⟩
  have hlow2 := hlowV.trans (hb2.mono hlowV.size)
  clear hlowV hby HSV hcp1 hcp2
  obtain ⟨A2, c2, rfl, _⟩ := h2.form
  have tl2 := textB_len pl
  have aa := a1.below (hlow2)
  have s2 := aa.low.size
  clear s1 x1
  go_wp2_with (at_builtin; refine wpList_append_by rfl (.tmp 24) (.tmp 29) rfl (v := .slice B1 L1.length d1) rfl aa.own rfl h2.rd (by omega) (by omega) ?_; intro L2 B2 d2 w2 hL3 hown3 hg hat; have a2 := aa.grown (by decide) hg hown3; have l2 : L2.length ≤ 159 := (by rw [hL3.out, List.length_append]; omega); have hE2 : Hid (L2 = [k0, k1, k2, k3, k4, k5].flatMap numB ++ textB pl) := (by show _ = _; rw [hL3.out, hE1.out]); clear h2 hg hat hown3 hL3 hb2 hE1 l1 tl2 s2 aa a1; have s1 := a2.low.size; have x1 := a2.box.lt; clear hlow2; have r7 : w2.cell? ⟨w.heap.size, 7, none⟩ = some (.string ⟨⟨tl_⟩⟩) := a2.box.cell 7; obtain ⟨cp, V, hcv, hby, hcp1, hcp2, hlowV, hsV⟩ := conv_str w2 tl_ (by simp only [maxLen]; omega); have HSV := Lib.hid hsV; clear hsV)
  clear hcv r7
  refine (refText_any _ cp tl_ _ V hby (by omega)).mono ?_
  rintro e w2_ ⟨v2, rfl, h2, hb2⟩
  have hlow2 := hlowV.trans (hb2.mono hlowV.size)
  clear hlowV hby HSV hcp1 hcp2
  obtain ⟨A2, c2, rfl, _⟩ := h2.form
  have tl2 := textB_len tl_
  have aa := a2.below (hlow2)
  have s2 := aa.low.size
  clear s1 x1
  go_wp2_with (at_builtin; refine wpList_append_by rfl (.tmp 31) (.tmp 36) rfl (v := .slice B2 L2.length d2) rfl aa.own rfl h2.rd (by omega) (by omega) ?_; intro L3 B3 d3 w3 hL3 hown3 hg hat; have a3 := aa.grown (by decide) hg hown3; have l3 : L3.length ≤ 264 := (by rw [hL3.out, List.length_append]; omega); have hE3 : Hid (L3 = [k0, k1, k2, k3, k4, k5].flatMap numB ++ textB pl ++ textB tl_) := (by show _ = _; rw [hL3.out, hE2.out]); clear h2 hg hat hown3 hL3 hb2 hE2 l2 tl2 s2 aa a2; have s1 := a3.low.size; have x1 := a3.box.lt; clear hlow2; have r8 : w3.cell? ⟨w.heap.size, 8, none⟩ = some (.slice xA x.length xc) := a3.box.cell 8)
  clear r8
  refine (refText_any xA xc x _ w3 (hvx.below a3.low) (by omega)).mono ?_
  rintro e w2_ ⟨v2, rfl, h2, hb2⟩
  obtain ⟨A2, c2, rfl, _⟩ := h2.form
  have tl2 := textB_len x
  have aa := a3.below (hb2)
  have s2 := aa.low.size
  clear s1 x1
  go_wp2_with (at_builtin; refine wpList_append_by rfl (.tmp 38) (.tmp 42) rfl (v := .slice B3 L3.length d3) rfl aa.own rfl h2.rd (by omega) (by omega) ?_; intro L4 B4 d4 w4 hL3 hown3 hg hat; have a4 := aa.grown (by decide) hg hown3; have l4 : L4.length ≤ 4369 := (by rw [hL3.out, List.length_append]; omega); have hE4 : Hid (L4 = [k0, k1, k2, k3, k4, k5].flatMap numB ++ textB pl ++ textB tl_ ++ textB x) := (by show _ = _; rw [hL3.out, hE3.out]); clear h2 hg hat hown3 hL3 hb2 hE3 l3 tl2 s2 aa a3; have s1 := a4.low.size; have x1 := a4.box.lt; have r9 : w4.cell? ⟨w.heap.size, 9, none⟩ = some (.slice kA kl.length kc) := a4.box.cell 9)
  have hal : Below w4.heap.size w4 (w4.alloc (.cells #[.int .i64 (kl.length : Int)] 3)) := (by repeat (first | exact Below.refl _ _ | refine Below.alloc ?_ (by simp) _ | refine Below.setCell ?_ (by simp) _ | refine Below.drew ?_))
  clear r9
  refine (numR_any _ _ [kl.length] _ _ (Rd.lit (w := w4) (size := 1) rfl (by simp) rfl) (by simp; omega) (by simp)).mono ?_
  rintro e w2_ ⟨A2_, c2_, M2, rfl, hM2, h2, hb2⟩
  have hM4 : M2 = numB kl.length := by rw [hM2.out]; simp
  clear hM2
  subst hM4
  have hlow2 := hal.trans (hb2.mono hal.size)
  clear hal
  skip
  have tl2 := numB_len kl.length
  have aa := a4.below (hlow2)
  have s2 := aa.low.size
  clear s1 x1
  go_wp2_with (at_builtin; refine wpList_append_by rfl (.tmp 44) (.tmp 49) rfl (v := .slice B4 L4.length d4) rfl aa.own rfl h2.rd (by omega) (by omega) ?_; intro L5 B5 d5 w5 hL3 hown3 hg hat; have a5 := aa.grown (by decide) hg hown3; have l5 : L5.length ≤ 4378 := (by rw [hL3.out, List.length_append]; omega); have hE5 : Hid (L5 = [k0, k1, k2, k3, k4, k5].flatMap numB ++ textB pl ++ textB tl_ ++ textB x ++ numB kl.length) := (by show _ = _; rw [hL3.out, hE4.out]); clear h2 hg hat hown3 hL3 hb2 hE4 l4 tl2 s2 aa a4; have s1 := a5.low.size; have x1 := a5.box.lt; clear hlow2)
  generalize hQ0 : [k0, k1, k2, k3, k4, k5].flatMap numB ++ textB pl ++ textB tl_ ++ textB x ++ numB kl.length = Q0 at hE5
  have HQ0 := Lib.hid hQ0
  clear hQ0
  go_loopw [3, 4] (fun bv_ iv wr => ∃ (j : Nat) (L : List UInt8) (B : Option Addr) (d : Nat), j ≤ kl.length ∧ iv = .int .i64 (j : Int) ∧ bv_ = .slice B L.length d ∧ Hid (L = Q0 ++ (kl.take j).flatMap keepB) ∧ L.length ≤ 4378 + 18 * j ∧ AR w 57 #[.int .i64 (k0 : Int), .int .i64 (k1 : Int), .int .i64 ((k2 : Int) - 1), .int .i64 ((k3 : Int) - 1), .int .u32 (k4 : Int), .int .i64 (k5 : Int), .string ⟨⟨pl⟩⟩, .string ⟨⟨tl_⟩⟩, .slice xA x.length xc, .slice kA kl.length kc, .slice cA cl.length cc] B d L wr) (fun _ iv _ => kl.length - (intOf iv).toNat)
  case atStart => exact ⟨0, L5, B5, d5, Nat.zero_le _, rfl, rfl, by show _ = _; rw [hE5.out]; simp, by omega, a5⟩
  case round =>
    obtain ⟨j, L, B, d, hj, rfl, rfl, hL, lL, a⟩ := hrel
    have s1 := a.low.size
    have x1 := a.box.lt
    have r9 : wr.cell? ⟨w.heap.size, 9, none⟩ = some (.slice kA kl.length kc) := a.box.cell 9
    by_cases hjl : j < kl.length
    · obtain ⟨g, o, rfl, _, hgl, f0, f1⟩ := kv_at (hvk.below a.low) hjl
      have hz := hkf _ (List.getElem_mem hjl)
      have HQn := Lib.hid (flat_take (f := keepB) hjl hL.out)
      clear hL
      generalize kl[j] = z at *
      obtain ⟨zf, zb⟩ := z
      dsimp only at hz f0 f1
      obtain ⟨a0, rfl⟩ : ∃ k : Nat, zf = k := ⟨zf.toNat, by omega⟩
      obtain ⟨a1, rfl⟩ : ∃ k : Nat, zb = k := ⟨zb.toNat, by omega⟩
      have n0 := numB_len a0
      have n1 := numB_len a1
      go_wp2_with fail
      refine wp_region_m [true, true, true, true, true, true, true, true, true, true, true, true, true, false, false] (fun W => Below wr.heap.size wr W) (by kernel_rfl) (by kernel_rfl) ?_
      simp only [List.length_cons, List.length_nil, Nat.zero_add, Nat.reduceAdd, List.take_succ_cons, List.take_zero, List.drop_succ_cons, List.drop_zero]
      refine mx_move _ (by kernel_rfl) rfl ⟨_, (by ((try simp [go_sem]); (try rfl); done)), _, (by (simp only [Act.put, List.setIfInBounds_toArray, List.set_cons_zero, List.set_cons_succ]; rfl)), ?_⟩
      refine mx_val (by kernel_rfl) ⟨_, (by (intro w' hC; clear hC; (try go_simp); (try with_reducible rfl); done)), _, (by (simp only [Act.put, List.setIfInBounds_toArray, List.set_cons_zero, List.set_cons_succ]; rfl)), ?_⟩
      refine mx_val (by kernel_rfl) ⟨_, (by (intro w' hC; (have q := (a.box.below hC).cell 9; simp at q); clear hC; (try go_simp); (try with_reducible rfl); done)), _, (by (simp only [Act.put, List.setIfInBounds_toArray, List.set_cons_zero, List.set_cons_succ]; rfl)), ?_⟩
      refine mx_move _ (by kernel_rfl) rfl ⟨_, (by ((try simp [go_sem]); (try rfl); done)), _, (by (simp only [Act.put, List.setIfInBounds_toArray, List.set_cons_zero, List.set_cons_succ]; rfl)), ?_⟩
      refine mx_val (by kernel_rfl) ⟨_, (by (intro w' hC; clear hC; (try go_simp); (try with_reducible rfl); done)), _, (by (simp only [Act.put, List.setIfInBounds_toArray, List.set_cons_zero, List.set_cons_succ]; rfl)), ?_⟩
      refine mx_val (by kernel_rfl) ⟨_, (by (intro w' hC; clear hC; (try go_simp); (try with_reducible rfl); done)), _, (by (simp only [Act.put, List.setIfInBounds_toArray, List.set_cons_zero, List.set_cons_succ]; rfl)), ?_⟩
      refine mx_val (by kernel_rfl) ⟨_, (by (intro w' hC; have q := cellAt hC hgl f0; clear hC; (try go_simp); (try with_reducible rfl); done)), _, (by (simp only [Act.put, List.setIfInBounds_toArray, List.set_cons_zero, List.set_cons_succ]; rfl)), ?_⟩
      refine mx_val (by kernel_rfl) ⟨_, (by (intro w' hC; clear hC; (try go_simp); (try with_reducible rfl); done)), _, (by (simp only [Act.put, List.setIfInBounds_toArray, List.set_cons_zero, List.set_cons_succ]; rfl)), ?_⟩
      refine mx_val (by kernel_rfl) ⟨_, (by (intro w' hC; (have q := (a.box.below hC).cell 9; simp at q); clear hC; (try go_simp); (try with_reducible rfl); done)), _, (by (simp only [Act.put, List.setIfInBounds_toArray, List.set_cons_zero, List.set_cons_succ]; rfl)), ?_⟩
      refine mx_move _ (by kernel_rfl) rfl ⟨_, (by ((try simp [go_sem]); (try rfl); done)), _, (by (simp only [Act.put, List.setIfInBounds_toArray, List.set_cons_zero, List.set_cons_succ]; rfl)), ?_⟩
      refine mx_val (by kernel_rfl) ⟨_, (by (intro w' hC; clear hC; (try go_simp); (try with_reducible rfl); done)), _, (by (simp only [Act.put, List.setIfInBounds_toArray, List.set_cons_zero, List.set_cons_succ]; rfl)), ?_⟩
      refine mx_val (by kernel_rfl) ⟨_, (by (intro w' hC; clear hC; (try go_simp); (try with_reducible rfl); done)), _, (by (simp only [Act.put, List.setIfInBounds_toArray, List.set_cons_zero, List.set_cons_succ]; rfl)), ?_⟩
      refine mx_val (by kernel_rfl) ⟨_, (by (intro w' hC; have q := cellAt hC hgl f1; clear hC; (try go_simp); (try with_reducible rfl); done)), _, (by (simp only [Act.put, List.setIfInBounds_toArray, List.set_cons_zero, List.set_cons_succ]; rfl)), ?_⟩
      refine mx_alone ((Below.refl _ _).drew) (by kernel_rfl) ⟨_, _, (by (go_simp; first | done | exact ⟨rfl, rfl⟩)), _, (by (simp only [Act.put, List.setIfInBounds_toArray, List.set_cons_zero, List.set_cons_succ]; rfl)), ?_⟩
      refine mx_call (((Below.refl _ _).alloc (Nat.le_refl _) _).drew) (by kernel_rfl) (by (go_simp; done)) (numR_any _ 2 [a0, a1] _ _ (Rd.lit (w := wr) (size := 1) rfl (by simp) rfl).drew (by simp; omega) (by simp)) ?_
      rintro e w2 ⟨A2, c2, M2, rfl, hM2, h2, hb2⟩
      have hal : Below wr.heap.size wr (wr.alloc (.cells #[.int .i64 (a0 : Int), .int .i64 (a1 : Int)] 3)).drew := ((Below.refl _ _).alloc (Nat.le_refl _) _).drew
      have hlow2 := hal.trans (hb2.mono hal.size)
      have a9 := a.below hlow2
      have s9 := a9.low.size
      have hM4 : M2 = keepB ⟨(a0 : Int), (a1 : Int)⟩ := by rw [hM2.out]; unfold keepB; simp
      have hM5 : M2.length ≤ 18 := by rw [hM4]; exact keepB_len _
      refine ⟨_, rfl, _, (by (simp only [Act.put, List.setIfInBounds_toArray, List.set_cons_zero, List.set_cons_succ]; rfl)), ?_⟩
      refine mx_end hlow2 ?_
      go_wp2_with (at_builtin; refine wpList_append_by rfl (.tmp 58) (.tmp 72) rfl (v := .slice B L.length d) rfl a9.own rfl h2.rd (by omega) (by omega) ?_; intro L3 A3 c3 w3 hL3 hown3 hg hat)
      have a3 := a9.grown (by decide) hg hown3
      go_roundw
      case rel => exact ⟨j + 1, L3, A3, c3, hjl, by go_num, rfl, by show _ = _; rw [hL3.out, ← HQn.out, hM4], by rw [hL3.out, List.length_append]; omega, a3⟩
      case measure => simp [intOf]; omega
    · have ej : j = kl.length := by omega
      subst ej
      obtain ⟨w6, rfl⟩ : ∃ x : World, x = wr := ⟨_, rfl⟩
      obtain ⟨L6, rfl⟩ : ∃ x, x = L := ⟨_, rfl⟩
      obtain ⟨B6, rfl⟩ : ∃ x, x = B := ⟨_, rfl⟩
      obtain ⟨d6, rfl⟩ : ∃ x, x = d := ⟨_, rfl⟩
      have hE6 : Hid (L6 = Q0 ++ kl.flatMap keepB) := by show _ = _; rw [hL.out, List.take_length]
      have l6 : L6.length ≤ 4522 := by omega
      have a6 := a
      clear a hL lL
      have r10 : w6.cell? ⟨w.heap.size, 10, none⟩ = some (.slice cA cl.length cc) := a6.box.cell 10
      go_wp2_with fail
      have hal : Below w6.heap.size w6 (w6.alloc (.cells #[.int .i64 (cl.length : Int)] 3)) := (by repeat (first | exact Below.refl _ _ | refine Below.alloc ?_ (by simp) _ | refine Below.setCell ?_ (by simp) _ | refine Below.drew ?_))
      clear r10
      refine (numR_any _ _ [cl.length] _ _ (Rd.lit (w := w6) (size := 1) rfl (by simp) rfl) (by simp; omega) (by simp)).mono ?_
      rintro e w2_ ⟨A2_, c2_, M2, rfl, hM2, h2, hb2⟩
      have hM4 : M2 = numB cl.length := by rw [hM2.out]; simp
      clear hM2
      subst hM4
      have hlow2 := hal.trans (hb2.mono hal.size)
      clear hal
      skip
      have tl2 := numB_len cl.length
      have aa := a6.below (hlow2)
      have s2 := aa.low.size
      clear s1 x1
      go_wp2_with (at_builtin; refine wpList_append_by rfl (.tmp 74) (.tmp 79) rfl (v := .slice B6 L6.length d6) rfl aa.own rfl h2.rd (by omega) (by omega) ?_; intro L7 B7 d7 w7 hL3 hown3 hg hat; have a7 := aa.grown (by decide) hg hown3; have l7 : L7.length ≤ 4531 := (by rw [hL3.out, List.length_append]; omega); have hE7 : Hid (L7 = Q0 ++ kl.flatMap keepB ++ numB cl.length) := (by show _ = _; rw [hL3.out, hE6.out]); clear h2 hg hat hown3 hL3 hb2 hE6 l6 tl2 s2 aa a6; have s1 := a7.low.size; have x1 := a7.box.lt; clear hlow2)
      generalize hQ1 : Q0 ++ kl.flatMap keepB ++ numB cl.length = Q1 at hE7
      have HQ1 := Lib.hid hQ1
      clear hQ1 s1 x1
      go_loopw [3, 5] (fun bv_ iv wr => ∃ (j : Nat) (L : List UInt8) (B : Option Addr) (d : Nat), j ≤ cl.length ∧ iv = .int .i64 (j : Int) ∧ bv_ = .slice B L.length d ∧ Hid (L = Q1 ++ (cl.take j).flatMap choB) ∧ L.length ≤ 4531 + 114 * j ∧ AR w 57 #[.int .i64 (k0 : Int), .int .i64 (k1 : Int), .int .i64 ((k2 : Int) - 1), .int .i64 ((k3 : Int) - 1), .int .u32 (k4 : Int), .int .i64 (k5 : Int), .string ⟨⟨pl⟩⟩, .string ⟨⟨tl_⟩⟩, .slice xA x.length xc, .slice kA kl.length kc, .slice cA cl.length cc] B d L wr) (fun _ iv _ => cl.length - (intOf iv).toNat)
      case atStart => exact ⟨0, L7, B7, d7, Nat.zero_le _, rfl, rfl, by show _ = _; rw [hE7.out]; simp, by omega, a7⟩
      case round =>
        obtain ⟨j, L8, B8, d8, hj, rfl, rfl, hL, l8, a8⟩ := hrel
        obtain ⟨w8, rfl⟩ : ∃ x : World, x = wr := ⟨_, rfl⟩
        have s1 := a8.low.size
        have x1 := a8.box.lt
        have r10 : w8.cell? ⟨w.heap.size, 10, none⟩ = some (.slice cA cl.length cc) := a8.box.cell 10
        by_cases hjl : j < cl.length
        · obtain ⟨g, o, rfl, _, hgl, f0, f1⟩ := hw_at hvc hjl
          have hz := hcf _ (List.getElem_mem hjl)
          have HQn := Lib.hid (flat_take (f := choB) hjl hL.out)
          clear hL
          generalize cl[j] = z at *
          obtain ⟨⟨⟨zp⟩⟩, zw⟩ := z
          dsimp only at hz f0 f1
          have hz1 : zp.length ≤ 96 := hz.1
          obtain ⟨a1, rfl⟩ : ∃ k : Nat, zw = k := ⟨zw.toNat, by omega⟩
          have F1 := Lib.hid f1
          clear f1
          have g0 := cellAt a8.low hgl f0
          clear f0
          obtain ⟨M8, hE8⟩ : ∃ M, Hid (L8 = M) := ⟨_, rfl⟩
          have HM8 := hE8
          obtain ⟨cp, V, hcv, hby, hcp1, hcp2, hlowV, hsV⟩ := conv_str w8 zp (by simp only [maxLen]; omega)
          have HSV := Lib.hid hsV
          clear hsV
          go_wp2_with fail
          clear g0
          clear hcv r10
          refine (refText_any _ cp zp _ V hby (by omega)).mono ?_
          rintro e w2_ ⟨v2, rfl, h2, hb2⟩
          have hlow2 := hlowV.trans (hb2.mono hlowV.size)
          clear hlowV hby HSV hcp1 hcp2
          obtain ⟨A2, c2, rfl, _⟩ := h2.form
          have tl2 := textB_len zp
          have aa := a8.below (hlow2)
          have s2 := aa.low.size
          clear s1 x1
          go_wp2_with (at_builtin; refine wpList_append_by rfl (.tmp 88) (.tmp 96) rfl (v := .slice B8 L8.length d8) rfl aa.own rfl h2.rd (by omega) (by omega) ?_; intro L9 B9 d9 w9 hL3 hown3 hg hat; have a9 := aa.grown (by decide) hg hown3; have l9 : L9.length ≤ 4531 + 114 * j + 105 := (by rw [hL3.out, List.length_append]; omega); have hE9 : Hid (L9 = M8 ++ textB zp) := (by show _ = _; rw [hL3.out, hE8.out]); clear h2 hg hat hown3 hL3 hb2 hE8 l8 tl2 s2 aa a8; have s1 := a9.low.size; have x1 := a9.box.lt; clear hlow2; have r10 : w9.cell? ⟨w.heap.size, 10, none⟩ = some (.slice (some ⟨g, o, none⟩) cl.length cc) := a9.box.cell 10; have g1 := cellAt a9.low hgl F1.out)
          clear g1
          have hal : Below w9.heap.size w9 (w9.alloc (.cells #[.int .i64 (a1 : Int)] 3)) := (by repeat (first | exact Below.refl _ _ | refine Below.alloc ?_ (by simp) _ | refine Below.setCell ?_ (by simp) _ | refine Below.drew ?_))
          clear r10
          refine (numR_any _ _ [a1] _ _ (Rd.lit (w := w9) (size := 1) rfl (by simp) rfl) (by simp; omega) (by simp)).mono ?_
          rintro e w2_ ⟨A2_, c2_, M2, rfl, hM2, h2, hb2⟩
          have hM4 : M2 = numB a1 := by rw [hM2.out]; simp
          clear hM2
          subst hM4
          have hlow2 := hal.trans (hb2.mono hal.size)
          clear hal
          skip
          have tl2 := numB_len a1
          have aa := a9.below (hlow2)
          have s2 := aa.low.size
          clear s1 x1
          go_wp2_with (at_builtin; refine wpList_append_by rfl (.tmp 98) (.tmp 106) rfl (v := .slice B9 L9.length d9) rfl aa.own rfl h2.rd (by omega) (by omega) ?_; intro L10 B10 d10 w10 hL3 hown3 hg hat; have a10 := aa.grown (by decide) hg hown3; have l10 : L10.length ≤ 4531 + 114 * (j + 1) := (by rw [hL3.out, List.length_append]; omega); have hE10 : Hid (L10 = M8 ++ textB zp ++ numB a1) := (by show _ = _; rw [hL3.out, hE9.out]); clear h2 hg hat hown3 hL3 hb2 hE9 l9 tl2 s2 aa a9; have s1 := a10.low.size; have x1 := a10.box.lt; clear hlow2)
          go_roundw
          case rel => exact ⟨j + 1, L10, B10, d10, hjl, by go_num, rfl, by show _ = _; rw [hE10.out, ← HM8.out, ← HQn.out]; unfold choB; simp, l10, a10⟩
          case measure => simp [intOf]; omega
        · have ej : j = cl.length := by omega
          subst ej
          go_wp2_with fail
          go_ret
          refine ⟨B8, d8, L8, rfl, ?_, a8.own, a8.low⟩
          show _ = _
          rw [hL.out, List.take_length, ← HQ1.out, ← HQ0.out, HYe.out]
          simp only [List.append_assoc]

end Go.Proofs.Ytpbgcbpofhbgbaa

/- tenderref41.in (Right: under way). -/
namespace Go.Proofs.Ytpbgcbpofhbgbaa
open Go.RowKit

theorem inR_any (n lo hi : Int) (w : World) : Calls Try.prog 74 #[.int .i64 n, .int .i64 lo, .int .i64 hi] w fun e w' => e = .returned (.bool (inB n lo hi)) ∧ w = w' := by
  obtain ⟨M, hM⟩ : ∃ M, M = inB n lo hi := ⟨_, rfl⟩
  rw [← hM]
  have HM := Lib.hid hM
  clear hM
  cases h1 : decide (lo ≤ n)
  · have h2 : decide (n ≥ lo) = false := h1
    obtain rfl : M = false := by rw [HM.out]; unfold inB; rw [h1]; rfl
    go_enter Try.func74, Try.ntmps74
    go_wp2_with fail
    go_ret
    exact ⟨rfl, rfl⟩
  · have h2 : decide (n ≥ lo) = true := h1
    have HM2 : Hid (M = decide (n ≤ hi)) := by show _ = _; rw [HM.out]; unfold inB; rw [h1]; rfl
    go_enter Try.func74, Try.ntmps74
    go_wp2_with fail
    go_ret
    exact ⟨ret_b HM2.out.symm, rfl⟩
end Go.Proofs.Ytpbgcbpofhbgbaa

/- tenderref41.Right: whether an act is right. -/
namespace Go.Proofs.Ytpbgcbpofhbgbaa
open Go.RowKit

set_option maxRecDepth 100000 in
set_option maxHeartbeats 4000000 in
theorem right_any (a : AV) (Z : Nat → Prop) (w : World) (h : a.ok w Z) :
    Calls Try.prog 34 #[a.val] w fun e w' => e = .returned (.bool (rightA a.a)) ∧ Below w.heap.size w w' := by
  obtain ⟨M, hM⟩ : ∃ M, M = rightA a.a := ⟨_, rfl⟩
  rw [← hM]
  have HM := Lib.hid hM
  clear hM
  unfold AV.val
  obtain ⟨A, hA⟩ : ∃ A, A = a.cells.toArray := ⟨_, rfl⟩
  have x0 : A[0]? = some (.int .i64 a.a.k) := by rw [hA]; rfl
  have x1 : A[1]? = some (.int .i64 a.a.s) := by rw [hA]; rfl
  have x2 : A[2]? = some (.int .i64 a.a.n) := by rw [hA]; rfl
  have x3 : A[3]? = some (.int .i64 a.a.b) := by rw [hA]; rfl
  have x4 : A[4]? = some (.int .u32 a.a.m) := by rw [hA]; rfl
  have x5 : A[5]? = some (.int .i64 a.a.ek) := by rw [hA]; rfl
  have x6 : A[6]? = some (.string a.a.p) := by rw [hA]; rfl
  have x7 : A[7]? = some (.string a.a.t) := by rw [hA]; rfl
  have x8 : A[8]? = some (.slice a.xA a.a.x.length a.xc) := by rw [hA]; rfl
  have x9 : A[9]? = some (.slice a.kA a.a.kl.length a.kc) := by rw [hA]; rfl
  have x10 : A[10]? = some (.slice a.cA a.a.cl.length a.cc) := by rw [hA]; rfl
  rw [show Value.agg #[.int .i64 a.a.k, .int .i64 a.a.s, .int .i64 a.a.n, .int .i64 a.a.b, .int .u32 a.a.m, .int .i64 a.a.ek, .string a.a.p, .string a.a.t, .slice a.xA a.a.x.length a.xc, .slice a.kA a.a.kl.length a.kc, .slice a.cA a.a.cl.length a.cc] = .agg A by rw [hA]; rfl]
  clear hA
  have hbw : Below w.heap.size w (w.alloc (.cells A 57)) := (by repeat (first | exact Below.refl _ _ | refine Below.alloc ?_ (by simp) _ | refine Below.setCell ?_ (by simp) _ | refine Below.drew ?_))
  have h1 := h.below hbw
  have bA := Blk.new w 57 A
  have bl := bA.lt
  have H1 := Lib.hid (fun w => inR_any a.a.k 1 12 w)
  have H2 := Lib.hid (fun w => inR_any a.a.s 0 2 w)
  have H3 := Lib.hid (fun w => inR_any a.a.n (-1) 1048576 w)
  have H4 := Lib.hid (fun w => inR_any a.a.b (-1) 1048576 w)
  have H5 := Lib.hid (fun w => inR_any a.a.ek 0 5 w)
  have hk := h1.k
  have hc := h1.c
  have fkl := h.fit.kl
  have fcl := h.fit.cl
  have fx := h.fit.x
  have fp := h.fit.p
  have ft := h.fit.t
  clear h h1
  unfold rightA at HM
  generalize inB a.a.k 1 12 = K0 at *
  generalize inB a.a.s 0 2 = K1 at *
  generalize inB a.a.n (-1) 1048576 = K2 at *
  generalize inB a.a.b (-1) 1048576 = K3 at *
  cases K0
  · obtain rfl : M = false := by rw [HM.out]; rfl
    go_enter Try.func34, Try.ntmps34
    go_wp2_with (first | (go_at_call 74; first | (with_reducible refine (H1.out _).mono ?_; rintro e w2 ⟨rfl, rfl⟩) | (with_reducible refine (H2.out _).mono ?_; rintro e w2 ⟨rfl, rfl⟩) | (with_reducible refine (H3.out _).mono ?_; rintro e w2 ⟨rfl, rfl⟩) | (with_reducible refine (H4.out _).mono ?_; rintro e w2 ⟨rfl, rfl⟩)))
    go_ret
    exact ⟨rfl, hbw⟩
  · skip
    cases K1
    · obtain rfl : M = false := by rw [HM.out]; rfl
      go_enter Try.func34, Try.ntmps34
      go_wp2_with (first | (go_at_call 74; first | (with_reducible refine (H1.out _).mono ?_; rintro e w2 ⟨rfl, rfl⟩) | (with_reducible refine (H2.out _).mono ?_; rintro e w2 ⟨rfl, rfl⟩) | (with_reducible refine (H3.out _).mono ?_; rintro e w2 ⟨rfl, rfl⟩) | (with_reducible refine (H4.out _).mono ?_; rintro e w2 ⟨rfl, rfl⟩)))
      go_ret
      exact ⟨rfl, hbw⟩
    · skip
      cases K2
      · obtain rfl : M = false := by rw [HM.out]; rfl
        go_enter Try.func34, Try.ntmps34
        go_wp2_with (first | (go_at_call 74; first | (with_reducible refine (H1.out _).mono ?_; rintro e w2 ⟨rfl, rfl⟩) | (with_reducible refine (H2.out _).mono ?_; rintro e w2 ⟨rfl, rfl⟩) | (with_reducible refine (H3.out _).mono ?_; rintro e w2 ⟨rfl, rfl⟩) | (with_reducible refine (H4.out _).mono ?_; rintro e w2 ⟨rfl, rfl⟩)))
        go_ret
        exact ⟨rfl, hbw⟩
      · skip
        cases K3
        · obtain rfl : M = false := by rw [HM.out]; rfl
          go_enter Try.func34, Try.ntmps34
          go_wp2_with (first | (go_at_call 74; first | (with_reducible refine (H1.out _).mono ?_; rintro e w2 ⟨rfl, rfl⟩) | (with_reducible refine (H2.out _).mono ?_; rintro e w2 ⟨rfl, rfl⟩) | (with_reducible refine (H3.out _).mono ?_; rintro e w2 ⟨rfl, rfl⟩) | (with_reducible refine (H4.out _).mono ?_; rintro e w2 ⟨rfl, rfl⟩)))
          go_ret
          exact ⟨rfl, hbw⟩
        · skip
          cases c4 : decide (a.a.kl.length ≤ 8)
          · have q4 : decide ((a.a.kl.length : Int) > 8) = true := by simp at c4 ⊢; omega
            obtain rfl : M = false := by rw [HM.out, c4]; rfl
            go_enter Try.func34, Try.ntmps34
            go_wp2_with (first | (go_at_call 74; first | (with_reducible refine (H1.out _).mono ?_; rintro e w2 ⟨rfl, rfl⟩) | (with_reducible refine (H2.out _).mono ?_; rintro e w2 ⟨rfl, rfl⟩) | (with_reducible refine (H3.out _).mono ?_; rintro e w2 ⟨rfl, rfl⟩) | (with_reducible refine (H4.out _).mono ?_; rintro e w2 ⟨rfl, rfl⟩)))
            go_ret
            exact ⟨rfl, hbw⟩
          · have q4 : decide ((a.a.kl.length : Int) > 8) = false := by simp at c4 ⊢; omega
            cases c5 : decide (a.a.cl.length ≤ 8)
            · have q5 : decide ((a.a.cl.length : Int) > 8) = true := by simp at c5 ⊢; omega
              obtain rfl : M = false := by rw [HM.out, c4, c5]; rfl
              go_enter Try.func34, Try.ntmps34
              go_wp2_with (first | (go_at_call 74; first | (with_reducible refine (H1.out _).mono ?_; rintro e w2 ⟨rfl, rfl⟩) | (with_reducible refine (H2.out _).mono ?_; rintro e w2 ⟨rfl, rfl⟩) | (with_reducible refine (H3.out _).mono ?_; rintro e w2 ⟨rfl, rfl⟩) | (with_reducible refine (H4.out _).mono ?_; rintro e w2 ⟨rfl, rfl⟩)))
              go_ret
              exact ⟨rfl, hbw⟩
            · have q5 : decide ((a.a.cl.length : Int) > 8) = false := by simp at c5 ⊢; omega
              have HM2 : Hid (M = (editB a.a && (a.a.kl.all goodK && a.a.cl.all goodC))) := by show _ = _; rw [HM.out, c4, c5]; rfl
              clear HM
              go_enter Try.func34, Try.ntmps34
              go_wp2_with (first | (go_at_call 74; first | (with_reducible refine (H1.out _).mono ?_; rintro e w2 ⟨rfl, rfl⟩) | (with_reducible refine (H2.out _).mono ?_; rintro e w2 ⟨rfl, rfl⟩) | (with_reducible refine (H3.out _).mono ?_; rintro e w2 ⟨rfl, rfl⟩) | (with_reducible refine (H4.out _).mono ?_; rintro e w2 ⟨rfl, rfl⟩)))
              have hb8 : ∀ {x : Nat}, x ≤ 8 → x ≤ 8 := fun h => h
              have l8 : a.a.kl.length ≤ 8 := by simpa using c4
              have m8 : a.a.cl.length ≤ 8 := by simpa using c5
              go_loopw [3] (fun iv wr => ∃ i : Nat, i ≤ a.a.kl.length ∧ iv = .int .i64 (i : Int) ∧ Hid ((a.a.kl.take i).all goodK = true) ∧ Below (w.alloc (.cells A 57)).heap.size (w.alloc (.cells A 57)) wr) (fun iv _ => a.a.kl.length - (intOf iv).toNat)
              case atStart => exact ⟨0, Nat.zero_le _, rfl, rfl, Below.refl _ _⟩
              case round =>
                obtain ⟨i, hi, rfl, hs, hb⟩ := hrel
                have e := cellAt hb bl ((bA.cell 9).trans x9)
                by_cases hlt : i < a.a.kl.length
                · obtain ⟨g, off, hA, _, _, p0, p1⟩ := kv_at (hk.below hb) hlt
                  rw [hA] at e
                  clear hA
                  have HT : Hid ((a.a.kl.take (i + 1)).all goodK = goodK a.a.kl[i]) := by
                    show _ = _
                    rw [List.take_succ_eq_append_getElem hlt, List.all_append, hs.out]
                    simp
                  have HF : Hid (goodK a.a.kl[i] = false → a.a.kl.all goodK = false) := fun e =>
                    List.all_eq_false.2 ⟨_, List.getElem_mem hlt, by rw [e]; simp⟩
                  generalize a.a.kl[i] = x at *
                  have J1 := Lib.hid (fun w => inR_any x.f 0 1048576 w)
                  have J2 := Lib.hid (fun w => inR_any x.b 0 1048576 w)
                  have he : goodK x = (inB x.f 0 1048576 && inB x.b 0 1048576) := rfl
                  rw [he] at HF HT
                  generalize inB x.f 0 1048576 = G1 at *
                  generalize inB x.b 0 1048576 = G2 at *
                  cases G1
                  · skip
                    obtain rfl : M = false := by rw [HM2.out, HF.out (by rfl)]; simp
                    clear HF HT hs
                    go_wp2_with (first | (go_at_call 74; first | (with_reducible refine (J1.out _).mono ?_; rintro e w2 ⟨rfl, rfl⟩) | (with_reducible refine (J2.out _).mono ?_; rintro e w2 ⟨rfl, rfl⟩)))
                    go_ret
                    exact ⟨rfl, hbw.trans (hb.mono hbw.size)⟩
                  · skip
                    cases G2
                    · skip
                      obtain rfl : M = false := by rw [HM2.out, HF.out (by rfl)]; simp
                      clear HF HT hs
                      go_wp2_with (first | (go_at_call 74; first | (with_reducible refine (J1.out _).mono ?_; rintro e w2 ⟨rfl, rfl⟩) | (with_reducible refine (J2.out _).mono ?_; rintro e w2 ⟨rfl, rfl⟩)))
                      go_ret
                      exact ⟨rfl, hbw.trans (hb.mono hbw.size)⟩
                    · skip
                      clear HF hs
                      go_wp2_with (first | (go_at_call 74; first | (with_reducible refine (J1.out _).mono ?_; rintro e w2 ⟨rfl, rfl⟩) | (with_reducible refine (J2.out _).mono ?_; rintro e w2 ⟨rfl, rfl⟩)))
                      go_roundw
                      case rel => exact ⟨i + 1, hlt, by go_num, HT.out, hb⟩
                      case measure => simp [intOf]; omega
                · have ee : i = a.a.kl.length := by omega
                  subst ee
                  have hEkl : a.a.kl.all goodK = true := by have := hs.out; rwa [List.take_length] at this
                  clear hs
                  rw [hEkl, Bool.true_and] at HM2
                  go_wp2_with fail
                  obtain ⟨wk, rfl⟩ : ∃ wk : World, wk = wr := ⟨_, rfl⟩
                  have hbK := hb
                  go_loopw [4] (fun iv wr => ∃ i : Nat, i ≤ a.a.cl.length ∧ iv = .int .i64 (i : Int) ∧ Hid ((a.a.cl.take i).all goodC = true) ∧ Below (w.alloc (.cells A 57)).heap.size (w.alloc (.cells A 57)) wr) (fun iv _ => a.a.cl.length - (intOf iv).toNat)
                  case atStart => exact ⟨0, Nat.zero_le _, rfl, rfl, hbK⟩
                  case round =>
                    obtain ⟨i, hi, rfl, hs, hb⟩ := hrel
                    have e := cellAt hb bl ((bA.cell 10).trans x10)
                    by_cases hlt : i < a.a.cl.length
                    · obtain ⟨g, off, hA, _, _, p0, p1⟩ := hw_at (hc.below hb) hlt
                      rw [hA] at e
                      clear hA
                      have HT : Hid ((a.a.cl.take (i + 1)).all goodC = goodC a.a.cl[i]) := by
                        show _ = _
                        rw [List.take_succ_eq_append_getElem hlt, List.all_append, hs.out]
                        simp
                      have HF : Hid (goodC a.a.cl[i] = false → a.a.cl.all goodC = false) := fun e =>
                        List.all_eq_false.2 ⟨_, List.getElem_mem hlt, by rw [e]; simp⟩
                      generalize a.a.cl[i] = x at *
                      have J2 := Lib.hid (fun w => inR_any x.w 0 2 w)
                      have he : goodC x = (decide (x.p.size ≤ 96) && inB x.w 0 2) := rfl
                      rw [he] at HF HT
                      generalize inB x.w 0 2 = G2 at *
                      cases cp : decide (x.p.size ≤ 96)
                      · have q1 : decide ((x.p.size : Int) > 96) = true := by simp at cp ⊢; omega
                        obtain rfl : M = false := by rw [HM2.out, HF.out (by first | rfl | (rw [cp]; rfl))]; simp
                        clear HF HT hs
                        go_wp2_with (first | (go_at_call 74; first | (with_reducible refine (J2.out _).mono ?_; rintro e w2 ⟨rfl, rfl⟩)))
                        go_ret
                        exact ⟨rfl, hbw.trans (hb.mono hbw.size)⟩
                      · have q1 : decide ((x.p.size : Int) > 96) = false := by simp at cp ⊢; omega
                        cases G2
                        · skip
                          obtain rfl : M = false := by rw [HM2.out, HF.out (by first | rfl | (rw [cp]; rfl))]; simp
                          clear HF HT hs
                          go_wp2_with (first | (go_at_call 74; first | (with_reducible refine (J2.out _).mono ?_; rintro e w2 ⟨rfl, rfl⟩)))
                          go_ret
                          exact ⟨rfl, hbw.trans (hb.mono hbw.size)⟩
                        · rw [cp] at HT
                          clear HF hs
                          go_wp2_with (first | (go_at_call 74; first | (with_reducible refine (J2.out _).mono ?_; rintro e w2 ⟨rfl, rfl⟩)))
                          go_roundw
                          case rel => exact ⟨i + 1, hlt, by go_num, HT.out, hb⟩
                          case measure => simp [intOf]; omega
                    · have ee : i = a.a.cl.length := by omega
                      subst ee
                      have hEcl : a.a.cl.all goodC = true := by have := hs.out; rwa [List.take_length] at this
                      clear hs
                      rw [hEcl, Bool.and_true] at HM2
                      unfold editB at HM2
                      generalize wr = w9 at *
                      have hw9 := hbw.trans (hb.mono hbw.size)
                      have y5 := cellAt hb bl ((bA.cell 5).trans x5)
                      have y6 := cellAt hb bl ((bA.cell 6).trans x6)
                      have y7 := cellAt hb bl ((bA.cell 7).trans x7)
                      have y8 := cellAt hb bl ((bA.cell 8).trans x8)
                      clear bA x0 x1 x2 x3 x4 x5 x6 x7 x8 x9 x10
                      generalize inB a.a.ek 0 5 = K at *
                      cases K
                      · obtain rfl : M = false := HM2.out.trans rfl
                        go_wp2_with (first | (go_at_call 74; first | (with_reducible refine (H5.out _).mono ?_; rintro e w2 ⟨rfl, rfl⟩)))
                        go_ret
                        exact ⟨rfl, hw9⟩
                      · skip
                        cases cp : decide (a.a.p.size ≤ 96)
                        · have q : decide ((a.a.p.size : Int) ≤ 96) = false := by simp at cp ⊢; omega
                          obtain rfl : M = false := by rw [HM2.out, cp]; rfl
                          go_wp2_with (first | (go_at_call 74; first | (with_reducible refine (H5.out _).mono ?_; rintro e w2 ⟨rfl, rfl⟩)))
                          go_ret
                          exact ⟨rfl, hw9⟩
                        · have qp : decide ((a.a.p.size : Int) ≤ 96) = true := by simp at cp ⊢; omega
                          cases ct : decide (a.a.t.size ≤ 96)
                          · have q : decide ((a.a.t.size : Int) ≤ 96) = false := by simp at ct ⊢; omega
                            obtain rfl : M = false := by rw [HM2.out, cp, ct]; rfl
                            go_wp2_with (first | (go_at_call 74; first | (with_reducible refine (H5.out _).mono ?_; rintro e w2 ⟨rfl, rfl⟩)))
                            go_ret
                            exact ⟨rfl, hw9⟩
                          · have qt : decide ((a.a.t.size : Int) ≤ 96) = true := by simp at ct ⊢; omega
                            cases cx : decide (a.a.x.length ≤ 4096)
                            · have q : decide ((a.a.x.length : Int) ≤ 4096) = false := by simp at cx ⊢; omega
                              obtain rfl : M = false := by rw [HM2.out, cp, ct, cx]; rfl
                              go_wp2_with (first | (go_at_call 74; first | (with_reducible refine (H5.out _).mono ?_; rintro e w2 ⟨rfl, rfl⟩)))
                              go_ret
                              exact ⟨rfl, hw9⟩
                            · have qx : decide ((a.a.x.length : Int) ≤ 4096) = true := by simp at cx ⊢; omega
                              obtain rfl : M = true := by rw [HM2.out, cp, ct, cx]; rfl
                              go_wp2_with (first | (go_at_call 74; first | (with_reducible refine (H5.out _).mono ?_; rintro e w2 ⟨rfl, rfl⟩)))
                              go_ret
                              exact ⟨rfl, hw9⟩
end Go.Proofs.Ytpbgcbpofhbgbaa

/- tenderref41.Write: the document's bytes of acts. -/
namespace Go.Proofs.Ytpbgcbpofhbgbaa
open Go.RowKit


set_option maxRecDepth 100000 in
set_option maxHeartbeats 4000000 in
theorem refWrite41_any (A : Option Addr) (c : Nat) (l : List AV) (Z : Nat → Prop) (w : World) (h : Acts w Z A l) :
    Calls Try.prog 37 #[.slice A l.length c] w fun e w' => ∃ (B : Option Addr) (d : Nat) (b : List UInt8), e = .returned (.tuple #[.slice B b.length d, .int .i64 (writeS (l.map AV.a)).2]) ∧ Hid (b = (writeS (l.map AV.a)).1) ∧ OwB w' w.heap.size (.slice B b.length d) b ∧ Below w.heap.size w w' := by
  obtain ⟨R, hR⟩ : ∃ R, R = writeS (l.map AV.a) := ⟨_, rfl⟩
  rw [← hR]
  have HR := Lib.hid hR
  clear hR
  have hll := h.len
  by_cases hbig : 65536 < l.length
  · obtain rfl : R = ([], 13) := by rw [HR.out]; unfold writeS; rw [if_pos (by simpa using hbig)]
    go_enter Try.func37, Try.ntmps37
    go_wp2_with fail
    go_ret2
    exact ⟨none, 0, [], rfl, rfl, OwB.nil _ _, Below.refl _ _⟩
  · go_enter Try.func37, Try.ntmps37
    go_wp2_with fail
    have hal : Below w.heap.size w (w.alloc (.cells #[.int .i64 (l.length : Int)] 3)) := (by repeat (first | exact Below.refl _ _ | refine Below.alloc ?_ (by simp) _ | refine Below.setCell ?_ (by simp) _ | refine Below.drew ?_))
    refine (numR_any _ _ [l.length] _ _ (Rd.lit (w := w) (size := 1) rfl (by simp) rfl) (by simp; omega) (by simp)).mono ?_
    rintro e w1 ⟨B1, d1, L1, rfl, hL1, ho1, hb1⟩
    have hL1' : L1 = numB l.length := by rw [hL1.out]; simp
    have hlow1 := hal.trans (hb1.mono hal.size)
    have ho1' := own_base (base' := w.heap.size) ho1 (fun g hg => Nat.le_trans hal.size (ho1.lt g hg).1)
    have n1 := numB_len l.length
    have l1 : L1.length ≤ 9 := by rw [hL1']; exact n1
    have HL1 := Lib.hid hL1'
    clear hL1 hL1' hb1 ho1 hal n1
    go_wp2_with fail
    go_loopw [4, 5] (fun bv_ iv wr => ∃ (i : Nat) (P : List UInt8) (B : Option Addr) (d : Nat), i ≤ l.length ∧ iv = .int .i64 (i : Int) ∧ bv_ = .slice B P.length d ∧ OwB wr w.heap.size (.slice B P.length d) P ∧ Below w.heap.size w wr ∧ Hid (P = numB l.length ++ ((l.take i).map AV.a).flatMap actB) ∧ Hid (((l.take i).map AV.a).all rightA = true) ∧ P.length ≤ 9 + i * 6000) (fun _ iv _ => l.length - (intOf iv).toNat)
    case atStart => exact ⟨0, L1, B1, d1, Nat.zero_le _, rfl, rfl, ho1', hlow1, by show _ = _; rw [HL1.out]; simp, rfl, by omega⟩
    case round =>
      obtain ⟨i, P, B, d, hi, rfl, rfl, hown, hb, hPe, hall, hPl⟩ := hrel
      have hsz := hb.size
      by_cases hlt : i < l.length
      · obtain ⟨b, off, rfl, _, hbl, p⟩ := av_at (h.below hb).rd hlt
        have hv := (h.below hb).ok _ (List.getElem_mem hlt)
        have hall2 : Hid (((l.take (i + 1)).map AV.a).all rightA = rightA l[i].a) := by
          show _ = _
          rw [List.take_succ_eq_append_getElem hlt, List.map_append, List.all_append, hall.out]
          simp
        have hbad : Hid (rightA l[i].a = false → R = ([], 2)) := fun e => by
          rw [HR.out]
          unfold writeS
          rw [if_neg (by simpa using hbig), if_neg]
          rw [Bool.not_eq_true]
          exact List.all_eq_false.2 ⟨l[i].a, List.mem_map_of_mem (List.getElem_mem hlt), by rw [e]; simp⟩
        have hPn : Hid (numB l.length ++ ((l.take (i + 1)).map AV.a).flatMap actB = P ++ actB l[i].a) := by
          show _ = _
          rw [hPe.out, List.take_succ_eq_append_getElem hlt, List.map_append, List.flatMap_append, List.append_assoc]
          simp
        generalize l[i] = v at *
        have HRT := Lib.hid (right_any v _ wr hv)
        have HAC := Lib.hid (fun hr W (hW : Below wr.heap.size wr W) => act_any v _ W (hv.below hW) hr)
        have hAL := Lib.hid (fun hr => actB_len (a := v.a) hr)
        clear hv
        have pk := Lib.hid p
        obtain ⟨p0, p1, p2, p3, p4, p5, p6, p7, p8, p9, p10⟩ := p
        cases hr : rightA v.a
        · obtain rfl := hbad.out hr
          rw [hr] at HRT
          clear hbad hall2 hPn hPe hall HAC hAL
          go_wp2_with fail
          refine HRT.out.mono ?_
          rintro e w2 ⟨rfl, hb2⟩
          go_wp2_with fail
          go_ret2
          exact ⟨none, 0, [], rfl, rfl, OwB.nil _ _, hb.trans (hb2.mono hb.size)⟩
        · clear hbad
          rw [hr] at HRT hall2
          have hal := hAL.out hr
          have HAC2 := Lib.hid (HAC.out hr)
          clear HAC hAL hr
          go_wp2_with fail
          refine HRT.out.mono ?_
          rintro e w2 ⟨rfl, hb2⟩
          obtain ⟨q0, q1, q2, q3, q4, q5, q6, q7, q8, q9, q10⟩ := pk.out.below hbl hb2
          clear p0 p1 p2 p3 p4 p5 p6 p7 p8 p9 p10
          go_wp2_with fail
          refine (HAC2.out w2 hb2).mono ?_
          rintro e w3 ⟨B3, d3, L3, rfl, hL3, ho3, hb3⟩
          have hb23 := hb2.trans (hb3.mono hb2.size)
          have hlow3 := hb.trans (hb23.mono hb.size)
          have hown3 := hown.below hb23
          have hs3 := hlow3.size
          have hl3 : L3.length ≤ 6000 := by rw [hL3.out]; exact hal
          clear q0 q1 q2 q3 q4 q5 q6 q7 q8 q9 q10
          go_wp2_with (at_builtin; refine wpList_append_by rfl (.tmp 25) (.tmp 30) rfl (v := .slice B P.length d) rfl hown3 rfl ho3.rd (by omega) (by omega) ?_; intro L4 B4 d4 w4 hL4 hown4 hg hat)
          have hf := Fr.of_grown hg (S := fun x => w.heap.size ≤ x) (fun k _ e => (hown3.lt k e).1)
          go_roundw
          case rel => exact ⟨i + 1, L4, B4, d4, hlt, by go_num, rfl, hown4, hlow3.trans (hf.below hs3 (fun k hk e => by omega)), by show _ = _; rw [hL4.out, hPn.out, hL3.out], hall2, by rw [hL4.out, List.length_append]; omega⟩
          case measure => simp [intOf]; omega
      · have e : i = l.length := by omega
        subst e
        have hRe : R = (P, 0) := by
          have q1 := hall.out
          have q2 := hPe.out
          rw [List.take_length] at q1 q2
          rw [HR.out]
          unfold writeS
          rw [if_neg (by simpa using hbig), if_pos q1, q2, List.length_map]
        obtain rfl := hRe
        clear hPe hall
        go_wp2_with fail
        go_ret2
        exact ⟨B, d, P, rfl, rfl, hown, hb⟩

end Go.Proofs.Ytpbgcbpofhbgbaa

/- A region in the text's order whose operations each yield ONE value and at most make memory (ClassF's steps without a drawn order). No program. -/
namespace Go.Proofs.Ytpbgcbpofhbgbaa
open Go.RowKit

section
variable {P : Program} {ops : Array Oper} {W : World} {Q : Exit → Act → World → Prop} {Lq : Act → Prop}
theorem wpList_walk : ∀ (l : List Oper) (a : Act) (w : World), WalkB P ops W Lq l a → Below W.heap.size W w → (∀ a' w', Lq a' → Below W.heap.size W w' → Q .normal a' w') → wpList P ops Q l a w
  | [], a, w, h, hw, hQ => by
    cases h with
    | nil h => exact hQ _ _ h hw
  | o :: l, a, w, h, hw, hQ => by
    cases h with
    | cons hy hd =>
      rcases hy with ⟨hwt, hv⟩ | ⟨hwt, rfl⟩
      · simp only [wpList, hwt, if_true]
        refine .inl ?_
        unfold Oper.wp
        rcases hv w hw with e | ⟨f, args, e, hc⟩
        · rw [e]
          exact wpList_walk l _ w hd hw hQ
        · rw [e]
          exact hc.mono fun e w' ⟨he, hb⟩ => by
            subst he
            exact wpList_walk l _ w' hd (hw.trans (hb.mono hw.size)) hQ
      · exact wpList_skip hwt (wpList_walk l _ w hd hw hQ)
theorem wpList_seq {l : List Oper} {a : Act} {w : World} (h : WalkB P ops w (fun a' => ∀ w', Below w.heap.size w w' → Q .normal a' w') l a) : wpList P ops Q l a w :=
  wpList_walk l a w h (Below.refl _ _) (fun _ _ h hb => h _ hb)
end
end Go.Proofs.Ytpbgcbpofhbgbaa
