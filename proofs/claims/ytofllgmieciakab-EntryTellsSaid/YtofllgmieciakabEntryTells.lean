/- EntryTells is true for every input: whether any entry is right, and the same as another one, or newer, and its row, is the document's; a clone shares nothing with it. No condition beyond the row's own. -/
import Derived.Test.YtofllgmieciakabEntryRow
import Derived.Test.YtofllgmieciakabLives21
import Derived.Test.YtofllgmieciakabOwnPut
namespace Go.Proofs.Ytofllgmieciakab
open Go.RowKit Go.WideShapes Go.ChangeShapes Go.ChangeAt

theorem keep8 {w1 V w3 : World} {a0 a1 a2 a3 a4 a5 a6 a7 : Addr} {u0 u1 u2 u3 u4 u5 u6 u7 : Value} (hS : V.cell? a0 = some u0 ∧ V.cell? a1 = some u1 ∧ V.cell? a2 = some u2 ∧ V.cell? a3 = some u3 ∧ V.cell? a4 = some u4 ∧ V.cell? a5 = some u5 ∧ V.cell? a6 = some u6 ∧ V.cell? a7 = some u7 ∧ Below w1.heap.size w1 V) (k : Below V.heap.size V w3) : w3.cell? a0 = some u0 ∧ w3.cell? a1 = some u1 ∧ w3.cell? a2 = some u2 ∧ w3.cell? a3 = some u3 ∧ w3.cell? a4 = some u4 ∧ w3.cell? a5 = some u5 ∧ w3.cell? a6 = some u6 ∧ w3.cell? a7 = some u7 ∧ Below w1.heap.size w1 w3 :=
  have c : ∀ {a : Addr} {u : Value}, V.cell? a = some u → w3.cell? a = some u := fun {a _} h => (World.cell?_of_block (k.block a.block (World.block_lt_of_cell? V a h))).trans h
  ⟨c hS.1, c hS.2.1, c hS.2.2.1, c hS.2.2.2.1, c hS.2.2.2.2.1, c hS.2.2.2.2.2.1, c hS.2.2.2.2.2.2.1, c hS.2.2.2.2.2.2.2.1, hS.2.2.2.2.2.2.2.2.trans (k.mono hS.2.2.2.2.2.2.2.2.size)⟩
theorem low8 {w1 V : World} {a0 a1 a2 a3 a4 a5 a6 a7 : Addr} {u0 u1 u2 u3 u4 u5 u6 u7 : Value} (hS : V.cell? a0 = some u0 ∧ V.cell? a1 = some u1 ∧ V.cell? a2 = some u2 ∧ V.cell? a3 = some u3 ∧ V.cell? a4 = some u4 ∧ V.cell? a5 = some u5 ∧ V.cell? a6 = some u6 ∧ V.cell? a7 = some u7 ∧ Below w1.heap.size w1 V) : Below w1.heap.size w1 V := hS.2.2.2.2.2.2.2.2

set_option maxRecDepth 100000 in
set_option maxHeartbeats 1000000 in
theorem entryTells_any (a b : EV) (w : World) (ha : a.ok w (fun b => b < w.heap.size)) (hb : b.ok w (fun b => b < w.heap.size)) :
    Calls Try.prog 6 #[.agg #[.string a.p, .int .u64 a.v, .int .i64 a.k, .slice a.x.A a.x.l.length a.x.c], .agg #[.string b.p, .int .u64 b.v, .int .i64 b.k, .slice b.x.A b.x.l.length b.x.c]] w fun e w' => e = .returned (.bool true) ∧ Below w.heap.size w w' := by
  have b0 := (Blk.new w 58 #[.string a.p, .int .u64 a.v, .int .i64 a.k, .slice a.x.A a.x.l.length a.x.c]).alloc (.cells #[.string b.p, .int .u64 b.v, .int .i64 b.k, .slice b.x.A b.x.l.length b.x.c] 58)
  have b1 := Blk.new (w.alloc (.cells #[.string a.p, .int .u64 a.v, .int .i64 a.k, .slice a.x.A a.x.l.length a.x.c] 58)) 58 #[.string b.p, .int .u64 b.v, .int .i64 b.k, .slice b.x.A b.x.l.length b.x.c]
  have hz2 : ((w.alloc (.cells #[.string a.p, .int .u64 a.v, .int .i64 a.k, .slice a.x.A a.x.l.length a.x.c] 58)).alloc (.cells #[.string b.p, .int .u64 b.v, .int .i64 b.k, .slice b.x.A b.x.l.length b.x.c] 58)).heap.size = w.heap.size + 1 + 1 := by simp
  rw [World.size_alloc] at b1
  have hw : Below w.heap.size w ((w.alloc (.cells #[.string a.p, .int .u64 a.v, .int .i64 a.k, .slice a.x.A a.x.l.length a.x.c] 58)).alloc (.cells #[.string b.p, .int .u64 b.v, .int .i64 b.k, .slice b.x.A b.x.l.length b.x.c] 58)) := (by repeat (first | exact Below.refl _ _ | refine Below.alloc ?_ (by simp) _ | refine Below.setCell ?_ (by simp) _ | refine Below.drew ?_))
  have hcl : Hid (([a, b] : List EV).flatMap EV.cells = [.string a.p, .int .u64 a.v, .int .i64 a.k, .slice a.x.A a.x.l.length a.x.c, .string b.p, .int .u64 b.v, .int .i64 b.k, .slice b.x.A b.x.l.length b.x.c]) := rfl
  go_enter Try.func6, Try.ntmps6
  go_wp2_with fail
  rw [← hz2]
  generalize (w.alloc (.cells #[.string a.p, .int .u64 a.v, .int .i64 a.k, .slice a.x.A a.x.l.length a.x.c] 58)).alloc (.cells #[.string b.p, .int .u64 b.v, .int .i64 b.k, .slice b.x.A b.x.l.length b.x.c] 58) = W at *
  have hsW := hw.size
  refine (lightE_any (some ⟨W.heap.size, 0, none⟩) 2 [a, b] (fun b => b < w.heap.size ∨ W.heap.size ≤ b) _ ⟨(Rd.lit (by rw [hcl.out]) rfl rfl).mono (fun b _ hb => .inr hb), ?_, by simp⟩).mono ?_
  · intro x hx
    rcases List.mem_cons.1 hx with rfl | hx
    · exact (ha.below (hw.alloc hsW _)).mono (fun b _ hb => .inl hb)
    · obtain rfl := List.mem_singleton.1 hx
      exact (hb.below (hw.alloc hsW _)).mono (fun b _ hb => .inl hb)
  rintro e w1 ⟨rfl, hb1⟩
  have hWw1 : Below W.heap.size W w1 := ((Below.refl _ _).alloc (Nat.le_refl _) _).trans (hb1.mono (by simp))
  have hw1 : Below w.heap.size w w1 := hw.trans (hWw1.mono hsW)
  have ba := b0.below hWw1
  have bb := b1.below hWw1
  replace ha := ha.below hw1
  replace hb := hb.below hw1
  have hs1 := hw1.size
  clear hb1 b0 b1 hw hWw1 hsW hz2 hcl
  cases hL : lightE [a, b]
  · go_wp2_with fail
    refine (lives21_any _).mono ?_
    rintro e w2 ⟨rfl, rfl⟩
    go_wp2_with fail
    go_ret
    exact ⟨rfl, hw1⟩
  · clear hL
    obtain ⟨p, v, k, xA, xc, xl⟩ := a
    obtain ⟨q, u, j, yA, yc, yl⟩ := b
    dsimp only at *
    have a0 : w1.cell? ⟨w.heap.size, 0, none⟩ = some (.string p) := ba.cell 0
    have a1 : w1.cell? ⟨w.heap.size, 1, none⟩ = some (.int .u64 v) := ba.cell 1
    have a2 : w1.cell? ⟨w.heap.size, 2, none⟩ = some (.int .i64 k) := ba.cell 2
    have a3 : w1.cell? ⟨w.heap.size, 3, none⟩ = some (.slice xA xl.length xc) := ba.cell 3
    have c0 : w1.cell? ⟨w.heap.size + 1, 0, none⟩ = some (.string q) := bb.cell 0
    have c1 : w1.cell? ⟨w.heap.size + 1, 1, none⟩ = some (.int .u64 u) := bb.cell 1
    have c2 : w1.cell? ⟨w.heap.size + 1, 2, none⟩ = some (.int .i64 j) := bb.cell 2
    have c3 : w1.cell? ⟨w.heap.size + 1, 3, none⟩ = some (.slice yA yl.length yc) := bb.cell 3
    have hya := ha.x.by_
    have hyb := hb.x.by_
    have ral := ha.len
    have rap := ha.p
    have rav := ha.v
    dsimp only at hya hyb ral rap rav
    generalize hr1 : checkE (tl p) v k xl.length = r1
    generalize hr2 : sameE (tl p) (tl q) v u k j xl yl = r2
    have hr3 : sameE (tl p) (tl p) v v k k xl xl = true := by unfold sameE; simp
    have H1 := Lib.hid (fun W => entryCheck_any p v k xA xl.length xc W (by omega) rav ral)
    have H2 := Lib.hid (fun W => refEntryCheck_any p v k xA xl.length xc W (by omega) rav ral)
    rw [hr1] at H1 H2
    have h3 := fun W (hk : Below w1.heap.size w1 W) => entrySame_any p q v u k j xA yA xc yc xl yl _ _ W (hya.below hk) (hyb.below hk)
    have h4 := fun W (hk : Below w1.heap.size w1 W) => refEntrySame_any p q v u k j xA yA xc yc xl yl _ _ W (hya.below hk) (hyb.below hk)
    have h5 := fun W (hk : Below w1.heap.size w1 W) => entrySame_any p p v v k k xA xA xc xc xl xl _ _ W (hya.below hk) (hya.below hk)
    rw [hr2] at h3 h4
    rw [hr3] at h5
    have H3 := Lib.hid h3
    have H4 := Lib.hid h4
    have H5 := Lib.hid h5
    clear h3 h4 h5
    have HYA := Lib.hid hya
    have HYB := Lib.hid hyb
    clear hr1 hr2 hr3 hya hyb
    go_wp2_with fail
    go_region_held3 (fun w' => w'.cell? ⟨w.heap.size, 0, none⟩ = some (.string p) ∧ w'.cell? ⟨w.heap.size, 1, none⟩ = some (.int .u64 v) ∧ w'.cell? ⟨w.heap.size, 2, none⟩ = some (.int .i64 k) ∧ w'.cell? ⟨w.heap.size, 3, none⟩ = some (.slice xA xl.length xc) ∧ w'.cell? ⟨w.heap.size + 1, 0, none⟩ = some (.string q) ∧ w'.cell? ⟨w.heap.size + 1, 1, none⟩ = some (.int .u64 u) ∧ w'.cell? ⟨w.heap.size + 1, 2, none⟩ = some (.int .i64 j) ∧ w'.cell? ⟨w.heap.size + 1, 3, none⟩ = some (.slice yA yl.length yc) ∧ Below w1.heap.size w1 w')
      (first | assumption | exact ⟨a0, a1, a2, a3, c0, c1, c2, c3, (Below.refl _ _).drew⟩ | exact keep8 (by assumption) hk)
      (first
      | (go_at_call 32; (with_reducible refine (H1.out _).mono ?_); rintro e w3 ⟨rfl, hk⟩)
      | (go_at_call 33; (with_reducible refine (H2.out _).mono ?_); rintro e w3 ⟨rfl, hk⟩)
      | (go_at_call 36; refine (entryNewer_any _ _ _ _ _ _ _ _ _).mono ?_; rintro e w3 ⟨rfl, hk⟩)
      | (go_at_call 34; (with_reducible refine (H3.out _ (low8 (by assumption))).mono ?_); rintro e w3 ⟨rfl, hk⟩)
      | (go_at_call 34; (with_reducible refine (H5.out _ (low8 (by assumption))).mono ?_); rintro e w3 ⟨rfl, hk⟩)
      | (go_at_call 35; (with_reducible refine (H4.out _ (low8 (by assumption))).mono ?_); rintro e w3 ⟨rfl, hk⟩))
    have hl3 : Below w1.heap.size w1 w3 := low8 (by assumption)
    have hw3 : Below w.heap.size w w3 := hw1.trans (hl3.mono hs1)
    have ba3 := ba.below hl3
    have hya3 := HYA.out.below hl3
    have hs3 := hw3.size
    have hs13 := hl3.size
    have hlB := ba3.lt
    clear a0 a1 a2 a3 c0 c1 c2 c3 hl3 ba bb HYB hw1 hk H1 H2 H3 H4 H5
    have cd : w3.drew.cell? ⟨w.heap.size, 0, none⟩ = some (.string p) ∧ w3.drew.cell? ⟨w.heap.size, 1, none⟩ = some (.int .u64 v) ∧ w3.drew.cell? ⟨w.heap.size, 2, none⟩ = some (.int .i64 k) ∧ w3.drew.cell? ⟨w.heap.size, 3, none⟩ = some (.slice xA xl.length xc) ∧ Below w3.heap.size w3 w3.drew := ⟨ba3.cell 0, ba3.cell 1, ba3.cell 2, ba3.cell 3, (Below.refl _ _).drew⟩
    have a0 : w3.cell? ⟨w.heap.size, 0, none⟩ = some (.string p) := ba3.cell 0
    have a1 : w3.cell? ⟨w.heap.size, 1, none⟩ = some (.int .u64 v) := ba3.cell 1
    have a2 : w3.cell? ⟨w.heap.size, 2, none⟩ = some (.int .i64 k) := ba3.cell 2
    have a3 : w3.cell? ⟨w.heap.size, 3, none⟩ = some (.slice xA xl.length xc) := ba3.cell 3
    go_wp2_with fail
    go_region_held3 (fun w' => w'.cell? ⟨w.heap.size, 0, none⟩ = some (.string p) ∧ w'.cell? ⟨w.heap.size, 1, none⟩ = some (.int .u64 v) ∧ w'.cell? ⟨w.heap.size, 2, none⟩ = some (.int .i64 k) ∧ w'.cell? ⟨w.heap.size, 3, none⟩ = some (.slice xA xl.length xc) ∧ Below w3.heap.size w3 w')
      (first | (with_reducible assumption) | (with_reducible exact cd) | (with_reducible exact ed))
      (first
      | (go_at_call 37; refine (entryRow_any p v k xA xl.length xc _).mono ?_; rintro e w4 ⟨rfl, h4⟩; have h4' : Below w3.heap.size w3 w4 := ((Below.refl _ _).drew).trans h4; have hb4 := ba3.below h4'; have ed : w4.cell? ⟨w.heap.size, 0, none⟩ = some (.string p) ∧ w4.cell? ⟨w.heap.size, 1, none⟩ = some (.int .u64 v) ∧ w4.cell? ⟨w.heap.size, 2, none⟩ = some (.int .i64 k) ∧ w4.cell? ⟨w.heap.size, 3, none⟩ = some (.slice xA xl.length xc) ∧ Below w3.heap.size w3 w4 := ⟨hb4.cell 0, hb4.cell 1, hb4.cell 2, hb4.cell 3, h4'⟩))
    clear a0 a1 a2 a3 cd
    have ba4 := hb4
    have hya4 := hya3.below h4'
    have hw4 : Below w.heap.size w w4 := hw3.trans (h4'.mono hs3)
    have hs4 := hw4.size
    have hs34 := h4'.size
    have a0 : w4.cell? ⟨w.heap.size, 0, none⟩ = some (.string p) := ba4.cell 0
    have a1 : w4.cell? ⟨w.heap.size, 1, none⟩ = some (.int .u64 v) := ba4.cell 1
    have a2 : w4.cell? ⟨w.heap.size, 2, none⟩ = some (.int .i64 k) := ba4.cell 2
    have a3 : w4.cell? ⟨w.heap.size, 3, none⟩ = some (.slice xA xl.length xc) := ba4.cell 3
    clear ed hb4 h4 h4' hya3 ba3 hw3
    go_wp2_with fail
    refine (entryClone_any p v k xA xc xl _ w4 hya4 ral).mono ?_
    rintro e w5 ⟨A5, c5, l5, rfl, hl5, ho5, hb5⟩
    have ba5 := ba4.below hb5
    have hya5 := hya4.below hb5
    have hw5 : Below w.heap.size w w5 := hw4.trans (hb5.mono hs4)
    have hs5 := hb5.size
    clear a0 a1 a2 a3
    have bc5 := Blk.new w5 58 #[.string p, .int .u64 v, .int .i64 k, .slice A5 l5.length c5]
    have bax := ba5.alloc (.cells #[.string p, .int .u64 v, .int .i64 k, .slice A5 l5.length c5] 58)
    have hyx := hya5.alloc (.cells #[.string p, .int .u64 v, .int .i64 k, .slice A5 l5.length c5] 58)
    have hox := ho5.alloc (.cells #[.string p, .int .u64 v, .int .i64 k, .slice A5 l5.length c5] 58)
    have hwx := hw5.alloc (by omega) (.cells #[.string p, .int .u64 v, .int .i64 k, .slice A5 l5.length c5] 58)
    have a0 : (w5.alloc (.cells #[.string p, .int .u64 v, .int .i64 k, .slice A5 l5.length c5] 58)).cell? ⟨w.heap.size, 0, none⟩ = some (.string p) := bax.cell 0
    have a1 : (w5.alloc (.cells #[.string p, .int .u64 v, .int .i64 k, .slice A5 l5.length c5] 58)).cell? ⟨w.heap.size, 1, none⟩ = some (.int .u64 v) := bax.cell 1
    have a2 : (w5.alloc (.cells #[.string p, .int .u64 v, .int .i64 k, .slice A5 l5.length c5] 58)).cell? ⟨w.heap.size, 2, none⟩ = some (.int .i64 k) := bax.cell 2
    have a3 : (w5.alloc (.cells #[.string p, .int .u64 v, .int .i64 k, .slice A5 l5.length c5] 58)).cell? ⟨w.heap.size, 3, none⟩ = some (.slice xA xl.length xc) := bax.cell 3
    go_wp2_with fail
    have hrs := refEntrySame_any p p v v k k A5 xA c5 xc l5 xl _ _ _ hox.rd hyx
    rw [show sameE (tl p) (tl p) v v k k l5 xl = true by unfold sameE; rw [hl5.out]; simp] at hrs
    have HRS := Lib.hid hrs
    clear hrs
    refine HRS.out.mono ?_
    rintro e w6 ⟨rfl, hb6⟩
    clear HRS a0 a1 a2 a3 ba4 hya4 ba5 hya5
    have hw6 : Below w.heap.size w w6 := hwx.trans (hb6.mono hwx.size)
    have ba6 := bax.below hb6
    have bc6 := bc5.below hb6
    have hya6 := hyx.below hb6
    have ho6 := hox.below hb6
    have hs6 := hb6.size
    rw [World.size_alloc] at hs6
    clear bc5 bax hyx hox hwx hb6
    have k1 := conv_by hya6 xc
    have a3 : w6.cell? ⟨w.heap.size, 3, none⟩ = some (.slice xA xl.length xc) := ba6.cell 3
    have e3 : w6.cell? ⟨w5.heap.size, 3, none⟩ = some (.slice A5 l5.length c5) := bc6.cell 3
    have hab := own_ablk ho5
    have hl5n : l5.length ≤ 140737488355328 := by rw [hl5.out]; exact ral
    go_wp2_with fail
    go_loopw [74] (fun iv wr => ∃ (i : Nat) (L : List UInt8), i ≤ l5.length ∧ iv = .int .i64 (i : Int) ∧ Hid (L.length = l5.length) ∧ OwB wr w4.heap.size (.slice A5 L.length c5) L ∧ Fr (fun k => ablk A5 = some k) w6 wr) (fun iv _ => l5.length - (intOf iv).toNat)
    case atStart => exact ⟨0, l5, Nat.zero_le _, rfl, rfl, ho6, Fr.refl _ _⟩
    case round =>
      obtain ⟨i, L, hi, rfl, hLl, hoL, hfL⟩ := hrel
      by_cases hlt : i < l5.length
      · obtain ⟨g, rfl, hgb, hgl⟩ := hoL.block (by rw [hLl.out]; omega)
        have hiL : i < L.length := by rw [hLl.out]; exact hlt
        have gb := hab g rfl
        have kc := hoL.cellAt hiL
        have kf := hoL.frozenAt i
        have kb : wr.cell? ⟨w5.heap.size, 3, none⟩ = some (.slice (some ⟨g, 0, none⟩) l5.length c5) := (bc6.fr hfL (by simp [ablk]; omega)).cell 3
        have hput := hoL.put i (L[i] + 1)
        rw [← bv_inc] at hput
        have hfp : Fr (fun k => ablk (some ⟨g, 0, none⟩) = some k) w6 (wr.setCell ⟨g, i, none⟩ (.int .u8 (IntKind.u8.wrap ((L[i].toNat : Int) + 1)))) := hfL.setAt g i rfl _
        have hd := L[i].toNat_lt
        generalize L[i] = d at *
        unfold bv at kc
        have Hput := Lib.hid hput
        have Hfp := Lib.hid hfp
        have Hset : Hid ((L.set i (d + 1)).length = l5.length) := by show _ = _; rw [List.length_set]; exact hLl.out
        clear hput hfp k1 a3 e3
        go_wp2_with fail
        go_roundw
        case rel => exact ⟨i + 1, L.set i (d + 1), hlt, by go_num, Hset, Hput.out, Hfp.out⟩
        case measure => simp [intOf]; omega
      · clear k1 a3 e3
        have hyr := hya6.fr hfL (fun b h1 h2 h3 => by have := hab _ h3; omega)
        have hwr : Below w.heap.size w wr := hw6.trans (hfL.below (by omega) (fun b h1 h3 => by have := hab _ h3; omega))
        have bar := ba6.fr hfL (fun h => by have := hab _ h; omega)
        have k2 := conv_by hyr xc
        have a3 : wr.cell? ⟨w.heap.size, 3, none⟩ = some (.slice xA xl.length xc) := bar.cell 3
        go_wp2_with fail
        refine (lives21_any _).mono ?_
        rintro e w7 ⟨rfl, rfl⟩
        go_wp2_with fail
        go_ret
        exact ⟨rfl, hwr⟩
end Go.Proofs.Ytofllgmieciakab
