/- script.Write: the bytes of acts. -/
import Derived.Test.YtpbgcbpofhbgbaaScriptPen
namespace Go.Proofs.Ytpbgcbpofhbgbaa
open Go.RowKit

def writeS (l : List AS) : List UInt8 × Int := if 65536 < l.length then ([], 13) else if l.all rightA then (numB l.length ++ l.flatMap actB, 0) else ([], 2)
theorem right_parts {a : AS} (h : rightA a = true) : (1 ≤ a.k ∧ a.k ≤ 12) ∧ (0 ≤ a.s ∧ a.s ≤ 2) ∧ (-1 ≤ a.n ∧ a.n ≤ 1048576) ∧ (-1 ≤ a.b ∧ a.b ≤ 1048576) ∧ a.kl.length ≤ 8 ∧ a.cl.length ≤ 8 ∧ ((0 ≤ a.ek ∧ a.ek ≤ 5) ∧ a.p.size ≤ 96 ∧ a.t.size ≤ 96 ∧ a.x.length ≤ 4096) ∧
    (∀ o ∈ a.kl, (0 ≤ o.f ∧ o.f ≤ 1048576) ∧ (0 ≤ o.b ∧ o.b ≤ 1048576)) ∧ (∀ o ∈ a.cl, o.p.size ≤ 96 ∧ (0 ≤ o.w ∧ o.w ≤ 2)) := by
  simpa [rightA, editB, inB, goodK, goodC, and_assoc] using h
theorem textB_len (l : List UInt8) : (textB l).length ≤ 9 + l.length := by
  have := numB_len l.length
  unfold textB
  simp only [List.length_append]
  omega
theorem choB_len {x : HW} (h : x.p.size ≤ 96) : (choB x).length ≤ 114 := by
  have h1 := textB_len x.p.data.toList
  have h2 := numB_len x.w.toNat
  have h3 : x.p.data.toList.length = x.p.size := by simp
  unfold choB
  simp only [List.length_append]
  omega
theorem actB_len {a : AS} (h : rightA a = true) : (actB a).length ≤ 6000 := by
  obtain ⟨_, _, _, _, h5, h6, ⟨_, h8, h9, h10⟩, _, h12⟩ := right_parts h
  have q1 := flat9 [a.k.toNat, a.s.toNat, (a.n + 1).toNat, (a.b + 1).toNat, a.m.toNat, a.ek.toNat]
  have q2 := textB_len a.p.data.toList
  have q3 := textB_len a.t.data.toList
  have q4 := textB_len a.x
  have q5 := numB_len a.kl.length
  have q6 := numB_len a.cl.length
  have q7 := flat_le (f := keepB) (K := 18) a.kl (fun x _ => keepB_len x)
  have q8 := flat_le (f := choB) (K := 114) a.cl (fun x hx => choB_len (h12 x hx).1)
  have e1 : a.p.data.toList.length = a.p.size := by simp
  have e2 : a.t.data.toList.length = a.t.size := by simp
  have m7 : a.kl.length * 18 ≤ 8 * 18 := Nat.mul_le_mul_right _ h5
  have m8 : a.cl.length * 114 ≤ 8 * 114 := Nat.mul_le_mul_right _ h6
  unfold actB
  simp only [List.length_append, List.length_cons, List.length_nil] at q1 ⊢
  omega
theorem u64_wrap {n : Int} (h : 0 ≤ n ∧ n < 18446744073709551616) : IntKind.u64.wrap n = n := IntWalk.u64_in _ (by omega)


set_option maxRecDepth 100000 in
set_option maxHeartbeats 4000000 in
theorem write_any (A : Option Addr) (c : Nat) (l : List AV) (w : World) (h : Acts w (fun b => b < w.heap.size) A l) (hcap : ∀ v ∈ l, v.a.x.length ≤ v.xc ∧ v.xc ≤ maxLen) :
    Calls Try.prog 32 #[.slice A l.length c] w fun e w' => ∃ (B : Option Addr) (d : Nat) (b : List UInt8), e = .returned (.tuple #[.slice B b.length d, .int .i64 (writeS (l.map AV.a)).2]) ∧ Hid (b = (writeS (l.map AV.a)).1) ∧ By w' (fun b => w.heap.size ≤ b) B b ∧ b.length ≤ d ∧ d ≤ maxLen ∧ Below w.heap.size w w' := by
  obtain ⟨R, hR⟩ : ∃ R, R = writeS (l.map AV.a) := ⟨_, rfl⟩
  rw [← hR]
  have HR := Lib.hid hR
  clear hR
  have hll := h.len
  by_cases hbig : 65536 < l.length
  · obtain rfl : R = ([], 13) := by rw [HR.out]; unfold writeS; rw [if_pos (by simpa using hbig)]
    go_enter Try.func32, Try.ntmps32
    go_wp2_with fail
    go_ret2
    exact ⟨none, 0, [], rfl, rfl, Rd.nil, Nat.le_refl _, by simp [maxLen], Below.refl _ _⟩
  · have hW0 := PW.mk (W1 := w.alloc (.cells #[.slice none 0 0] 113)) (pb := w.heap.size) (P := []) (w := w.alloc (.cells #[.slice none 0 0] 113)) ⟨_, Pen.new w⟩ (Fr.refl _ _)
    have hWs : (w.alloc (.cells #[.slice none 0 0] 113)).heap.size = w.heap.size + 1 := World.size_alloc _ _
    have hWb : Below w.heap.size w (w.alloc (.cells #[.slice none 0 0] 113)) := (by repeat (first | exact Below.refl _ _ | refine Below.alloc ?_ (by simp) _ | refine Below.setCell ?_ (by simp) _ | refine Below.drew ?_))
    have hn64 : IntKind.u64.wrap (l.length : Int) = (l.length : Int) := u64_wrap (by omega)
    go_enter Try.func32, Try.ntmps32
    go_wp2_with fail
    generalize w.alloc (.cells #[.slice none 0 0] 113) = W1 at *
    refine (pw_num hW0 hWs hWs.symm [l.length] rfl rfl (by simp; omega) (by simp)).mono ?_
    rintro e w1 ⟨rfl, h1, _⟩
    rw [List.nil_append, List.flatMap_cons, List.flatMap_nil, List.append_nil] at h1
    go_wp2_with fail
    go_loopw [22] (fun iv wr => ∃ (i : Nat) (P : List UInt8), i ≤ l.length ∧ iv = .int .i64 (i : Int) ∧ PW W1 w.heap.size P wr ∧ Hid (P = numB l.length ++ ((l.take i).map AV.a).flatMap actB) ∧ Hid (((l.take i).map AV.a).all rightA = true) ∧ P.length ≤ 9 + i * 6000) (fun iv _ => l.length - (intOf iv).toNat)
    case atStart => exact ⟨0, _, Nat.zero_le _, rfl, h1, by show _ = _; simp, rfl, by have := numB_len l.length; omega⟩
    case round =>
      obtain ⟨i, P, hi, rfl, hP, hPe, hall, hPl⟩ := hrel
      have hbw : Below w.heap.size w wr := hWb.trans (hP.fr.below (by omega) (fun k hk e => by omega))
      have hsz := hP.fr.size
      by_cases hlt : i < l.length
      · obtain ⟨b, off, rfl, _, hbl, p⟩ := av_at (h.below hbw).rd hlt
        have hv := (h.below hbw).ok _ (List.getElem_mem hlt)
        have hcp := hcap _ (List.getElem_mem hlt)
        have hv0 := h.ok _ (List.getElem_mem hlt)
        have hall2 : Hid (((l.take (i + 1)).map AV.a).all rightA = rightA l[i].a) := by
          show _ = _
          rw [List.take_succ_eq_append_getElem hlt, List.map_append, List.all_append, hall.out]
          simp
        have hbad : Hid (rightA l[i].a = false → R = ([], 2)) := fun e => by
          rw [HR.out]
          unfold writeS
          rw [if_neg (by simpa using hbig), if_neg]
          rw [Bool.not_eq_true]
          exact List.all_eq_false.2 ⟨l[i].a, List.mem_map_of_mem (List.getElem_mem hlt), by rw [e]; simp⟩
        have hPn : Hid (numB l.length ++ ((l.take (i + 1)).map AV.a).flatMap actB = P ++ actB l[i].a) := by
          show _ = _
          rw [hPe.out, List.take_succ_eq_append_getElem hlt, List.map_append, List.flatMap_append, List.append_assoc]
          simp
        generalize l[i] = v at *
        have HCK := Lib.hid (check_any v _ (wr.alloc (.cells #[.int .i64 v.a.k, .int .i64 v.a.s, .int .i64 v.a.n, .int .i64 v.a.b, .int .u32 v.a.m, .int .i64 v.a.ek, .string v.a.p, .string v.a.t, .slice v.xA v.a.x.length v.xc, .slice v.kA v.a.kl.length v.kc, .slice v.cA v.a.cl.length v.cc] 57)) (hv.below (by repeat (first | exact Below.refl _ _ | refine Below.alloc ?_ (by simp) _ | refine Below.setCell ?_ (by simp) _ | refine Below.drew ?_))))
        cases hr : rightA v.a
        · obtain rfl := hbad.out hr
          rw [hr] at HCK
          obtain ⟨p0, p1, p2, p3, p4, p5, p6, p7, p8, p9, p10⟩ := p
          have bl : Below wr.heap.size wr (wr.alloc (.cells #[.int .i64 v.a.k, .int .i64 v.a.s, .int .i64 v.a.n, .int .i64 v.a.b, .int .u32 v.a.m, .int .i64 v.a.ek, .string v.a.p, .string v.a.t, .slice v.xA v.a.x.length v.xc, .slice v.kA v.a.kl.length v.kc, .slice v.cA v.a.cl.length v.cc] 57)) := (by repeat (first | exact Below.refl _ _ | refine Below.alloc ?_ (by simp) _ | refine Below.setCell ?_ (by simp) _ | refine Below.drew ?_))
          clear hbad hall2 hPn hPe hall
          go_wp2_with fail
          refine HCK.out.mono ?_
          rintro e w2 ⟨rfl, hb2⟩
          go_wp2_with fail
          go_ret2
          have hs2 := bl.size
          exact ⟨none, 0, [], rfl, rfl, Rd.nil, Nat.le_refl _, by simp [maxLen], (hbw.trans (bl.mono (by omega))).trans (hb2.mono (by omega))⟩
        · clear hbad
          rw [hr] at HCK hall2
          have hfit := hv.fit
          obtain ⟨hvx, hvk, hvc, _⟩ := hv0
          clear hv
          have hrp := right_parts hr
          obtain ⟨⟨ak, as_, an, ab_, am, aek, ⟨⟨pl⟩⟩, ⟨⟨tl_⟩⟩, x, kl, cl⟩, xA, xc, kA, kc, cA, cc⟩ := v
          have hm := hfit.m
          have hcx : x.length ≤ 4096 := hrp.2.2.2.2.2.2.1.2.2.2
          dsimp only at hvx hvk hvc hrp hm HCK hPn p hcp
          clear hfit hr
          obtain ⟨h1_, h2_, h3_, h4_, h5_, h6_, ⟨h7_, h8_, h9_, _⟩, hkf, hcf⟩ := hrp
          obtain ⟨k0, rfl⟩ : ∃ k : Nat, ak = k := ⟨ak.toNat, by omega⟩
          obtain ⟨k1, rfl⟩ : ∃ k : Nat, as_ = k := ⟨as_.toNat, by omega⟩
          obtain ⟨k2, rfl⟩ : ∃ k : Nat, an = (k : Int) - 1 := ⟨(an + 1).toNat, by omega⟩
          obtain ⟨k3, rfl⟩ : ∃ k : Nat, ab_ = (k : Int) - 1 := ⟨(ab_ + 1).toNat, by omega⟩
          obtain ⟨k4, rfl⟩ : ∃ k : Nat, am = k := ⟨am.toNat, by omega⟩
          obtain ⟨k5, rfl⟩ : ∃ k : Nat, aek = k := ⟨aek.toNat, by omega⟩
          replace h8_ : pl.length ≤ 96 := h8_
          replace h9_ : tl_.length ≤ 96 := h9_
          have hPm : Hid (numB l.length ++ ((l.take (i + 1)).map AV.a).flatMap actB = P ++ ([k0, k1, k2, k3, k4, k5].flatMap numB ++ (textB pl ++ (textB tl_ ++ (textB x ++ (numB kl.length ++ (kl.flatMap keepB ++ (numB cl.length ++ cl.flatMap choB)))))))) := by
            show _ = _
            rw [hPn.out]
            unfold actB
            simp only [Int.toNat_natCast, Int.sub_add_cancel]
          clear hPn
          obtain ⟨p0, p1, p2, p3, p4, p5, p6, p7, p8, p9, p10⟩ := p
          have bl : Below wr.heap.size wr (wr.alloc (.cells #[.int .i64 (k0 : Int), .int .i64 (k1 : Int), .int .i64 ((k2 : Int) - 1), .int .i64 ((k3 : Int) - 1), .int .u32 (k4 : Int), .int .i64 (k5 : Int), .string ⟨⟨pl⟩⟩, .string ⟨⟨tl_⟩⟩, .slice xA x.length xc, .slice kA kl.length kc, .slice cA cl.length cc] 57)) := (by repeat (first | exact Below.refl _ _ | refine Below.alloc ?_ (by simp) _ | refine Below.setCell ?_ (by simp) _ | refine Below.drew ?_))
          have x1 := Blk.new wr 57 #[.int .i64 (k0 : Int), .int .i64 (k1 : Int), .int .i64 ((k2 : Int) - 1), .int .i64 ((k3 : Int) - 1), .int .u32 (k4 : Int), .int .i64 (k5 : Int), .string ⟨⟨pl⟩⟩, .string ⟨⟨tl_⟩⟩, .slice xA x.length xc, .slice kA kl.length kc, .slice cA cl.length cc]
          go_wp2_with fail
          refine HCK.out.mono ?_
          rintro e w2 ⟨rfl, hb2⟩
          have bl2 := bl.trans (hb2.mono bl.size)
          have x2 := x1.below hb2
          have P2 := hP.below bl2
          have s2 := bl2.size
          have x2l := x2.lt
          have r0 : w2.cell? ⟨wr.heap.size, 0, none⟩ = some (.int .i64 (k0 : Int)) := x2.cell 0
          have r1 : w2.cell? ⟨wr.heap.size, 1, none⟩ = some (.int .i64 (k1 : Int)) := x2.cell 1
          have r2 : w2.cell? ⟨wr.heap.size, 2, none⟩ = some (.int .i64 ((k2 : Int) - 1)) := x2.cell 2
          have r3 : w2.cell? ⟨wr.heap.size, 3, none⟩ = some (.int .i64 ((k3 : Int) - 1)) := x2.cell 3
          have r4 : w2.cell? ⟨wr.heap.size, 4, none⟩ = some (.int .u32 (k4 : Int)) := x2.cell 4
          have r5 : w2.cell? ⟨wr.heap.size, 5, none⟩ = some (.int .i64 (k5 : Int)) := x2.cell 5
          have r6 : w2.cell? ⟨wr.heap.size, 6, none⟩ = some (.string ⟨⟨pl⟩⟩) := x2.cell 6
          have r7 : w2.cell? ⟨wr.heap.size, 7, none⟩ = some (.string ⟨⟨tl_⟩⟩) := x2.cell 7
          have r8 : w2.cell? ⟨wr.heap.size, 8, none⟩ = some (.slice xA x.length xc) := x2.cell 8
          have r9 : w2.cell? ⟨wr.heap.size, 9, none⟩ = some (.slice kA kl.length kc) := x2.cell 9
          have r10 : w2.cell? ⟨wr.heap.size, 10, none⟩ = some (.slice cA cl.length cc) := x2.cell 10
          clear p0 p1 p2 p3 p4 p5 p6 p7 p8 p9 p10 x1 HCK hb2
          go_wp2_with fail
          refine (pw_num P2 hWs rfl [k0, k1, k2, k3, k4, k5] rfl rfl (by simp; omega) (by simp; omega)).mono ?_
          rintro e w3 ⟨rfl, P3, K3⟩
          have x3 := K3 _ _ _ x2 (by decide) (by omega)
          have s3 := P3.fr.size
          have x3l := x3.lt
          have l3 : (P ++ [k0, k1, k2, k3, k4, k5].flatMap numB).length ≤ 9 + i * 6000 + 54 := by
            have := flat9 [k0, k1, k2, k3, k4, k5]
            simp only [List.length_append, List.length_cons, List.length_nil] at this ⊢
            omega
          have b3 : Below w.heap.size w w3 := hWb.trans (P3.fr.below (by omega) (fun k hk e => by omega))
          have hmx : maxLen = 9223372036854775807 := rfl
          obtain ⟨cp, V1, hcv1, hby1, hcp1, hcp2, hlow1, hs1⟩ := conv_str w3 pl (by rw [hmx]; omega)
          obtain ⟨ct, V2, hcv2, hby2, hct1, hct2, hlow2, hs2⟩ := conv_str V1 tl_ (by rw [hmx]; omega)
          have HS1 := Lib.hid hs1
          have HS2 := Lib.hid hs2
          clear hs1 hs2
          have hlow : Below w3.heap.size w3 V2 := hlow1.trans (hlow2.mono hlow1.size)
          have x3a := x3.below hlow1
          have x3b := x3a.below hlow2
          have r6 : w3.cell? ⟨wr.heap.size, 6, none⟩ = some (.string ⟨⟨pl⟩⟩) := x3.cell 6
          have r7 : V1.cell? ⟨wr.heap.size, 7, none⟩ = some (.string ⟨⟨tl_⟩⟩) := x3a.cell 7
          have r8 : V2.cell? ⟨wr.heap.size, 8, none⟩ = some (.slice xA x.length xc) := x3b.cell 8
          clear hmx r0 r1 r2 r3 r4 r5 r9 r10 K3
          go_wp2_with fail
          clear hcv1 hcv2
          refine (pw_text P3 hWs hlow rfl [⟨some ⟨w3.heap.size, 0, none⟩, cp, pl⟩, ⟨some ⟨V1.heap.size, 0, none⟩, ct, tl_⟩, ⟨xA, xc, x⟩] rfl rfl ?_ ?_).mono ?_
          · intro y hy
            simp only [List.mem_cons, List.not_mem_nil, or_false] at hy
            rcases hy with rfl | rfl | rfl
            · exact BV.ok.mono (BV.ok.below (w := V1) ⟨hby1, hcp1, hcp2⟩ hlow2) (fun b _ hb => .inr (by omega))
            · exact BV.ok.mono (w := V2) ⟨hby2, hct1, hct2⟩ (fun b _ hb => .inr (by have := HS1.out; omega))
            · exact BV.ok.mono (w := V2) ⟨(hvx.below b3).below hlow, hcp⟩ (fun b _ hb => .inl hb)
          · simp only [wide, List.map_cons, List.map_nil, List.sum_cons, List.sum_nil]; omega
          rintro e w4 ⟨rfl, P4, K4⟩
          have x4 := K4 _ _ _ x3 (by decide) (by omega)
          have s4 := P4.fr.size
          have x4l := x4.lt
          have t1 := textB_len pl
          have t2 := textB_len tl_
          have t3 := textB_len x
          have l4 : (P ++ [k0, k1, k2, k3, k4, k5].flatMap numB ++ [(⟨some ⟨w3.heap.size, 0, none⟩, cp, pl⟩ : BV), ⟨some ⟨V1.heap.size, 0, none⟩, ct, tl_⟩, ⟨xA, xc, x⟩].flatMap fun x => textB x.l).length ≤ 9 + i * 6000 + 54 + 4315 := by
            rw [List.length_append]
            simp only [List.flatMap_cons, List.flatMap_nil, List.length_append, List.length_nil] at l3 ⊢
            omega
          have HQ0 : Hid ((P ++ [k0, k1, k2, k3, k4, k5].flatMap numB ++ [(⟨some ⟨w3.heap.size, 0, none⟩, cp, pl⟩ : BV), ⟨some ⟨V1.heap.size, 0, none⟩, ct, tl_⟩, ⟨xA, xc, x⟩].flatMap fun x => textB x.l) ++ (numB kl.length ++ (kl.flatMap keepB ++ (numB cl.length ++ cl.flatMap choB))) = numB l.length ++ ((l.take (i + 1)).map AV.a).flatMap actB) := by
            show _ = _
            rw [hPm.out]
            simp only [List.flatMap_cons, List.flatMap_nil, List.append_nil, List.append_assoc]
          clear hPm l3 t1 t2 t3 hby1 hby2 x3a x3b x3 P3 r6 r7 r8 x2 P2 K4 hlow1 hlow2 hlow
          generalize P ++ [k0, k1, k2, k3, k4, k5].flatMap numB ++ ([(⟨some ⟨w3.heap.size, 0, none⟩, cp, pl⟩ : BV), ⟨some ⟨V1.heap.size, 0, none⟩, ct, tl_⟩, ⟨xA, xc, x⟩].flatMap fun x => textB x.l) = Q0 at *
          have r9 : w4.cell? ⟨wr.heap.size, 9, none⟩ = some (.slice kA kl.length kc) := x4.cell 9
          go_wp2_with fail
          refine (pw_num P4 hWs rfl [kl.length] rfl rfl (by simp; omega) (by simp; omega)).mono ?_
          rintro e w5 ⟨rfl, P5, K5⟩
          have x5 := K5 _ _ _ x4 (by decide) (by omega)
          have s5 := P5.fr.size
          have nk := numB_len kl.length
          have r9' : w5.cell? ⟨wr.heap.size, 9, none⟩ = some (.slice kA kl.length kc) := x5.cell 9
          clear r9 K5 x4 P4
          go_wp2_with fail
          go_loopw [76] (fun jv wk => ∃ (j : Nat) (Q : List UInt8), j ≤ kl.length ∧ jv = .int .i64 (j : Int) ∧ PW W1 w.heap.size Q wk ∧ Hid (Q = Q0 ++ numB kl.length ++ (kl.take j).flatMap keepB) ∧ Blk wk wr.heap.size 57 #[.int .i64 (k0 : Int), .int .i64 (k1 : Int), .int .i64 ((k2 : Int) - 1), .int .i64 ((k3 : Int) - 1), .int .u32 (k4 : Int), .int .i64 (k5 : Int), .string ⟨⟨pl⟩⟩, .string ⟨⟨tl_⟩⟩, .slice xA x.length xc, .slice kA kl.length kc, .slice cA cl.length cc] ∧ Q.length ≤ 9 + i * 6000 + 54 + 4315 + 9 + j * 18) (fun jv _ => kl.length - (intOf jv).toNat)
          case atStart => exact ⟨0, _, Nat.zero_le _, rfl, P5, by show _ = _; simp, x5, by simp; omega⟩
          case round =>
            obtain ⟨j, Q, hj, rfl, PQ, hQ, xQ, lQ⟩ := hrel
            obtain ⟨wk, rfl⟩ : ∃ wk : World, wk = wr := ⟨_, rfl⟩
            have sQ := PQ.fr.size
            have xQl := xQ.lt
            have bk : Below w.heap.size w wk := hWb.trans (PQ.fr.below (by omega) (fun k hk e => by omega))
            by_cases hjl : j < kl.length
            · obtain ⟨g, o, rfl, _, _, f0, f1⟩ := kv_at (hvk.below bk) hjl
              have hz := hkf _ (List.getElem_mem hjl)
              have hQn := flat_take (f := keepB) hjl hQ.out
              have HQn := Lib.hid hQn
              clear hQn
              generalize kl[j] = z at *
              obtain ⟨zf, zb⟩ := z
              dsimp only at hz f0 f1
              obtain ⟨a0, rfl⟩ : ∃ k : Nat, zf = k := ⟨zf.toNat, by omega⟩
              obtain ⟨a1, rfl⟩ : ∃ k : Nat, zb = k := ⟨zb.toNat, by omega⟩
              have bC : Below wk.heap.size wk (wk.alloc (.cells #[.int .i64 (a0 : Int), .int .i64 (a1 : Int)] 91)) := (by repeat (first | exact Below.refl _ _ | refine Below.alloc ?_ (by simp) _ | refine Below.setCell ?_ (by simp) _ | refine Below.drew ?_))
              go_wp2_with fail
              refine (pw_num (PQ.below bC) hWs (by simp) [a0, a1] rfl rfl (by simp; omega) (by simp; omega)).mono ?_
              rintro e w6 ⟨rfl, P6, K6⟩
              have x6 := K6 _ _ _ (xQ.below bC) (by decide) (by omega)
              have n0 := numB_len a0
              have n1 := numB_len a1
              go_wp2_with fail
              go_roundw
              case rel => exact ⟨j + 1, _, hjl, by go_num, P6, by show _ = _; rw [← HQn.out]; unfold keepB; simp, x6, by simp; omega⟩
              case measure => simp [intOf]; omega
            · have ej : j = kl.length := by omega
              subst ej
              have hQ1 : Hid (Q = Q0 ++ numB kl.length ++ kl.flatMap keepB) := by
                show _ = _
                rw [hQ.out, List.take_length]
              clear hQ
              have r10 : wk.cell? ⟨wr.heap.size, 10, none⟩ = some (.slice cA cl.length cc) := xQ.cell 10
              go_wp2_with fail
              refine (pw_num PQ hWs rfl [cl.length] rfl rfl (by simp; omega) (by simp; omega)).mono ?_
              rintro e w6 ⟨rfl, P6, K6⟩
              have x6 := K6 _ _ _ xQ (by decide) (by omega)
              have s6 := P6.fr.size
              have nc := numB_len cl.length
              have r10' : w6.cell? ⟨wr.heap.size, 10, none⟩ = some (.slice cA cl.length cc) := x6.cell 10
              clear r10 K6
              go_wp2_with fail
              go_loopw [98] (fun jv wm => ∃ (j : Nat) (Q2 : List UInt8), j ≤ cl.length ∧ jv = .int .i64 (j : Int) ∧ PW W1 w.heap.size Q2 wm ∧ Hid (Q2 = Q ++ numB cl.length ++ (cl.take j).flatMap choB) ∧ Q2.length ≤ 9 + i * 6000 + 54 + 4315 + 9 + 144 + 9 + j * 114) (fun jv _ => cl.length - (intOf jv).toNat)
              case atStart => exact ⟨0, _, Nat.zero_le _, rfl, P6, by show _ = _; simp, by simp; omega⟩
              case round =>
                obtain ⟨j, Q2, hj, rfl, PR, hR2, lR⟩ := hrel
                obtain ⟨wm, rfl⟩ : ∃ wm : World, wm = wr := ⟨_, rfl⟩
                have sR := PR.fr.size
                have bm : Below w.heap.size w wm := hWb.trans (PR.fr.below (by omega) (fun k hk e => by omega))
                by_cases hjl : j < cl.length
                · obtain ⟨g, o, rfl, _, _, f0, f1⟩ := hw_at (hvc.below bm) hjl
                  have hz := hcf _ (List.getElem_mem hjl)
                  have hQn := flat_take (f := choB) hjl hR2.out
                  have HQn := Lib.hid hQn
                  clear hQn
                  generalize cl[j] = z at *
                  obtain ⟨⟨⟨zp⟩⟩, zw⟩ := z
                  dsimp only at hz f0 f1
                  have hz1 : zp.length ≤ 96 := hz.1
                  obtain ⟨a1, rfl⟩ : ∃ k : Nat, zw = k := ⟨zw.toNat, by omega⟩
                  have bC : Below wm.heap.size wm (wm.alloc (.cells #[.string ⟨⟨zp⟩⟩, .int .i64 (a1 : Int)] 95)) := (by repeat (first | exact Below.refl _ _ | refine Below.alloc ?_ (by simp) _ | refine Below.setCell ?_ (by simp) _ | refine Below.drew ?_))
                  have sC : (wm.alloc (.cells #[.string ⟨⟨zp⟩⟩, .int .i64 (a1 : Int)] 95)).heap.size = wm.heap.size + 1 := World.size_alloc _ _
                  have cC := Blk.new wm 95 #[.string ⟨⟨zp⟩⟩, .int .i64 (a1 : Int)]
                  have hmx : maxLen = 9223372036854775807 := rfl
                  obtain ⟨cp_, V1, hcv1, hby1, hcp1, hcp2, hlow1, hs1⟩ := conv_str (wm.alloc (.cells #[.string ⟨⟨zp⟩⟩, .int .i64 (a1 : Int)] 95)) zp (by rw [hmx]; omega)
                  have HS1 := Lib.hid hs1
                  have hlow : Below wm.heap.size wm V1 := bC.trans (hlow1.mono bC.size)
                  have cV := cC.below hlow1
                  clear hmx hs1
                  rw [sC] at hcv1 hby1
                  go_wp2_with fail
                  clear hcv1
                  refine (pw_text (PR.below bC) hWs hlow1 rfl [⟨some ⟨wm.heap.size + 1, 0, none⟩, cp_, zp⟩] rfl rfl ?_ ?_).mono ?_
                  · intro y hy
                    obtain rfl := List.mem_singleton.1 hy
                    exact BV.ok.mono (w := V1) ⟨hby1, hcp1, hcp2⟩ (fun b _ hb => .inr (by rw [sC]; (try simp at hb); omega))
                  · simp only [wide, List.map_cons, List.map_nil, List.sum_cons, List.sum_nil]; omega
                  rintro e w7 ⟨rfl, P7, K7⟩
                  have c7 := K7 _ _ _ cC (by decide) (by omega)
                  have g1 : w7.cell? ⟨wm.heap.size, 1, none⟩ = some (.int .i64 (a1 : Int)) := c7.cell 1
                  have t1 := textB_len zp
                  have n1 := numB_len a1
                  clear cV cC hlow hlow1 hby1 K7
                  go_wp2_with fail
                  refine (pw_num P7 hWs rfl [a1] rfl rfl (by simp; omega) (by simp only [List.flatMap_cons, List.flatMap_nil, List.append_nil, List.length_append, List.length_cons, List.length_nil]; omega)).mono ?_
                  rintro e w8 ⟨rfl, P8, _⟩
                  go_wp2_with fail
                  go_roundw
                  case rel => exact ⟨j + 1, _, hjl, by go_num, P8, by show _ = _; rw [← HQn.out]; unfold choB; simp, by simp only [List.flatMap_cons, List.flatMap_nil, List.append_nil, List.length_append]; omega⟩
                  case measure => simp [intOf]; omega
                · have ej : j = cl.length := by omega
                  subst ej
                  have hfinal : Hid (Q2 = numB l.length ++ ((l.take (i + 1)).map AV.a).flatMap actB) := by
                    show _ = _
                    rw [hR2.out, List.take_length, hQ1.out, ← HQ0.out]
                    simp only [List.append_assoc]
                  clear hR2 hQ1 HQ0
                  go_wp2_with fail
                  go_roundw
                  case rel => exact ⟨i + 1, Q2, hlt, by go_num, PR, hfinal, hall2, by omega⟩
                  case measure => simp [intOf]; omega
      · have e : i = l.length := by omega
        subst e
        have hRe : R = (P, 0) := by
          have q1 := hall.out
          have q2 := hPe.out
          rw [List.take_length] at q1 q2
          rw [HR.out]
          unfold writeS
          rw [if_neg (by simpa using hbig), if_pos q1, q2, List.length_map]
        obtain rfl := hRe
        obtain ⟨vv, hpen⟩ := hP.pen
        clear hPe hall
        go_wp2_with fail
        refine (Bytes_any w.heap.size w.heap.size vv P wr hpen (by omega)).mono ?_
        rintro e w9 ⟨B, d, b, rfl, hb, ho, hb9⟩
        go_wp2_with fail
        go_ret2
        obtain ⟨B', d', e2, q1, q2, q3⟩ := ho.form
        obtain ⟨rfl, rfl⟩ : B = B' ∧ d = d' := by simpa using e2
        exact ⟨B, d, b, rfl, hb, ho.rd.mono (fun b _ hb => by have := (own_ablk ho b hb).1; omega), q1, q2, hbw.trans (hb9.mono (by omega))⟩

end Go.Proofs.Ytpbgcbpofhbgbaa
