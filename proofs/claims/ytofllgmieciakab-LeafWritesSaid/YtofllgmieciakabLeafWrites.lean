/- LeafWrites is true for every input: the bytes of any leaves are the document's; right ones are read of them as they were. No condition beyond the row's own. -/
import Derived.Test.YtofllgmieciakabLeafBytes
import Derived.Test.YtofllgmieciakabLeafLives
import Derived.Test.YtofllgmieciakabBackMath
import Derived.Deep.RegionHeld3
import Derived.Deep.RegionLaw
namespace Go.Proofs.Ytofllgmieciakab
open Go.RowKit Go.WideShapes Go.ChangeShapes Go.ChangeAt

/-- a leaf as it is read again -/
def backK (k : Int) (l : List UInt8) : Nat := if checkN k l.length ≠ 0 then 0 else k.toNat
def backL (k : Int) (l : List UInt8) : List UInt8 := if checkN k l.length ≠ 0 then [] else l
theorem leafS_back (k : Int) (l t : List UInt8) : leafS (leafB k l ++ t) 0 = (backK k l, backL k l, t, 0) := by
  unfold backK backL
  by_cases hck : checkN k l.length = 0
  · rw [if_neg (by simpa using hck), if_neg (by simpa using hck)]
    obtain ⟨hk, hn0, hl⟩ := checkN_ok hck
    by_cases hk1 : k = 1
    · rw [leafB_file hck hk1]
      subst hk1
      unfold leafS
      rw [List.append_assoc, int_numB _ (by omega) (by omega)]
      dsimp only
      rw [if_pos rfl, text_textB t (by omega) (by omega)]
      simp
    · rw [leafB_other hck hk1]
      have hl0 : l = [] := List.eq_nil_of_length_eq_zero (hn0 hk1)
      unfold leafS
      rw [int_numB _ (by omega) (by omega)]
      have hk2 : ¬ k.toNat = 1 := by omega
      subst hl0
      simp [hk2]
  · rw [if_pos hck, if_pos hck, leafB_bad hck]
    unfold leafS
    rw [int_numB _ (by omega) (by omega)]
    simp
theorem wideL_light (l : List LV) : wideL l = 18 * l.length + lensL l := by
  induction l with
  | nil => simp [wideL, lensL]
  | cons x l ih =>
    simp only [wideL, lensL, List.map_cons, List.sum_cons, List.length_cons] at ih ⊢
    omega
theorem wideL_all (l : List LV) : (l.flatMap fun o => leafB o.k o.x.l).length ≤ wideL l := by
  induction l with
  | nil => simp [wideL]
  | cons x cs ih =>
    have := leafB_len x.k x.x.l
    simp only [wideL, List.flatMap_cons, List.length_append, List.map_cons, List.sum_cons] at ih ⊢
    omega

set_option maxHeartbeats 400000 in
theorem leafWrites_far (A : Option Addr) (c : Nat) (l : List LV) (w : World) (h : Leaves w (fun b => b < w.heap.size) A l) (hl : lightL l = false) :
    Calls Try.prog 5 #[.slice A l.length c] w fun e w' => e = .returned (.bool true) ∧ Below w.heap.size w w' := by
  go_enter Try.func5, Try.ntmps5
  go_wp2_with fail
  refine (lightL_any A c l _ w h).mono ?_
  rintro e w1 ⟨rfl, hb1⟩
  rw [hl]
  go_wp2_with fail
  refine (lives07_any _).mono ?_
  rintro e w2 ⟨rfl, hb2⟩
  go_wp2_with fail
  go_ret
  exact ⟨rfl, bthen hb1 hb2⟩

def lwRel (l : List LV) (w0 w2 : World) (iv wv : Value) (wr : World) : Prop :=
  ∃ (i : Nat) (L : List UInt8) (A : Option Addr) (c : Nat), i ≤ l.length ∧ iv = .int .i64 (i : Int) ∧ wv = .slice A L.length c ∧ OwB wr w2.heap.size (.slice A L.length c) L ∧ Hid (L = (l.take i).flatMap fun o => leafB o.k o.x.l) ∧ Below w2.heap.size w2 wr ∧ w0 = w0

set_option maxRecDepth 100000 in
set_option maxHeartbeats 1000000 in
theorem leafWrites_near (A : Option Addr) (c : Nat) (l : List LV) (w : World) (h : Leaves w (fun b => b < w.heap.size) A l) (hl : lightL l = true) :
    Calls Try.prog 5 #[.slice A l.length c] w fun e w' => e = .returned (.bool true) ∧ Below w.heap.size w w' := by
  have hl2 : lensL l ≤ 20000 ∧ l.length ≤ 300 := by simpa [lightL] using hl
  have hwl := wideL_light l
  go_enter Try.func5, Try.ntmps5
  go_wp2_with fail
  refine (lightL_any A c l _ w h).mono ?_
  rintro e w1 ⟨rfl, hb1⟩
  rw [hl]
  have hs1 := hb1.size
  have hb1a := hb1.alloc hs1 (.cells #[.slice none 0 0] 49)
  have h1 := h.below hb1a
  have hp1 := Pen.new w1 (base := w1.heap.size)
  have hz1 : (w1.alloc (.cells #[.slice none 0 0] 49)).heap.size = w1.heap.size + 1 := by simp
  go_wp2_with fail
  generalize w1.alloc (.cells #[.slice none 0 0] 49) = W1 at *
  refine (leafWrite_any w1.heap.size w1.heap.size (.slice none 0 0) [] A c l _ W1 hp1 h1.rd h1.ok ?_ (by omega) (by simp; omega)).mono ?_
  · rintro b _ hb (rfl | e)
    · omega
    · simp [Value.ownBlock] at e
  rintro e w2 ⟨rfl, v2, h2⟩
  have hlow2 : Below w.heap.size w w2 := hb1a.trans (hp1.low h2 (by omega) (by omega) (by omega))
  have hp2 := h2.pen
  have hs2 := hlow2.size
  have hs12 := h2.fr.size
  go_wp2_with fail
  have hLn : (([] : List UInt8) ++ l.flatMap fun o : LV => leafB o.k o.x.l).length ≤ 25400 := by have := wideL_all l; rw [List.nil_append]; omega
  generalize hGL : (([] : List UInt8) ++ l.flatMap fun o : LV => leafB o.k o.x.l) = GL at hp2 hLn
  have HGL := Lib.hid hGL
  clear hGL h2
  go_loopw [4, 18] (fun wv iv wr => lwRel l w w2 iv wv wr) (fun _ iv _ => l.length - (intOf iv).toNat)
  case atStart => exact ⟨0, [], none, 0, Nat.zero_le _, rfl, rfl, OwB.nil _ _, by show _ = _; simp, Below.refl _ _, rfl⟩
  case round =>
    obtain ⟨i, L, Aw, cw, hi, rfl, rfl, hown, hL, hlow, _⟩ := hrel
    have hsr := hlow.size
    have hlr := hlow2.trans (hlow.mono hs2)
    by_cases hlt : i < l.length
    · obtain ⟨b, off, rfl, _, _, hc0, hc1⟩ := leaf_at (h.below hlr).rd hlt
      have hxok := ((h.below hlr).ok _ (List.getElem_mem hlt)).by_
      have hxl := h.lens _ (List.getElem_mem hlt)
      have hxk := h.ks _ (List.getElem_mem hlt)
      have hw := wideL_take l i hlt
      have hBl := leafB_len l[i].k l[i].x.l
      have hll : L.length + (18 + l[i].x.l.length) ≤ 25400 := by rw [hL.out]; omega
      have hLn2 := flat_take (f := fun o : LV => leafB o.k o.x.l) (l := []) (L := L) hlt (by rw [hL.out]; rfl)
      have HLn2 := Lib.hid hLn2
      clear hLn2 hw hL
      generalize l[i] = x at *
      obtain ⟨k, xA, xc, xl⟩ := x
      dsimp only at *
      have hxk2 := hxok.alloc (.cells #[.int .i64 k, .slice xA xl.length xc] 24)
      go_wp2_with fail
      refine (leafBytes_any k xA xc xl _ _ hxk2 hxl hxk).mono ?_
      rintro e w3 ⟨A3, c3, l3, rfl, hl3, ho3, hb3⟩
      have hlw3 : Below wr.heap.size wr w3 := ((Below.refl _ _).alloc (Nat.le_refl _) _).trans (hb3.mono (by simp))
      have hs3 := hlw3.size
      have hown3 := hown.below hlw3
      have hl3l : l3.length ≤ 18 + xl.length := by rw [hl3.out]; exact hBl
      go_wp2_with (at_builtin; refine wpList_append_by rfl (.tmp 22) (.tmp 24) rfl (v := .slice Aw L.length cw) rfl hown3 rfl ho3.rd (by omega) (by omega) ?_; intro L4 A4 c4 w4 hL4 hown4 hg hat)
      have hf4 := Fr.of_grown hg (S := fun x => w2.heap.size ≤ x) (fun k _ e => (hown3.lt k e).1)
      have hlow4 : Below w2.heap.size w2 w4 := (hlow.trans (hlw3.mono hsr)).trans (hf4.below (by omega) (fun k hk e => by omega))
      go_roundw
      case rel =>
        refine ⟨i + 1, L4, A4, c4, hlt, by go_num, rfl, hown4, ?_, hlow4, rfl⟩
        show _ = _
        rw [hL4.out, hl3.out]
        simpa using HLn2.out
      case measure => simp [intOf]; omega
    · have e : i = l.length := by omega
      subst e
      have hLA : Hid (L = GL) := by show _ = _; rw [hL.out, List.take_length, ← HGL.out]; simp
      have hp3 := hp2.below hlow
      clear hL hlow hlt
      generalize wr = w3 at *
      go_wp2_with fail
      refine (Bytes_any _ _ _ _ _ hp3 (by omega)).mono ?_
      rintro e w4 ⟨A4, c4, l4, rfl, hl4, ho4, hb4⟩
      obtain rfl : l4 = GL := hl4.out
      obtain rfl : L = l4 := hLA.out
      have hown4 := hown.below hb4
      have hlow4 : Below w.heap.size w w4 := hlr.trans (hb4.mono hlr.size)
      go_wp2_with fail
      refine (refSame_any _ _ _ _ L L _ _ _ ho4.rd hown4.rd).mono ?_
      rw [show (L == L) = true by simp]
      rintro e w5 ⟨rfl, rfl⟩
      obtain ⟨A6, c6, e6, hlc6, hcm6, hA6⟩ := hown4.form
      obtain ⟨rfl, rfl⟩ : Aw = A6 ∧ cw = c6 := by simpa using e6
      go_wp2_with fail
      refine (open_any Aw cw L.length w4).mono ?_
      rintro e w5 ⟨rfl, rfl⟩
      have he := EyeAt.new w4 (T := 76) (Z := fun b => b < w4.heap.size) (hown4.rd.mono (fun b hb _ => hb)) hlc6 hcm6
      have hs4 := hlow4.size
      go_wp2_with fail
      have HLL : Hid (L = (l.drop 0).flatMap fun o => leafB o.k o.x.l) := by show _ = _; rw [← HGL.out]; simp
      go_loopw [37] (fun iv wr => ∃ (i : Nat) (A3 : Option Addr) (c3 : Nat) (L3 : List UInt8), i ≤ l.length ∧ iv = .int .i64 (i : Int) ∧ EyeAt wr 76 w4.heap.size (fun b => b < w4.heap.size) A3 c3 L3 0 ∧ L3.length ≤ 25400 ∧ Hid (L3 = (l.drop i).flatMap fun o => leafB o.k o.x.l) ∧ Below w.heap.size w wr) (fun iv _ => l.length - (intOf iv).toNat)
      case atStart => exact ⟨0, Aw, cw, L, Nat.zero_le _, rfl, he, hLn, HLL, hlow4.alloc hs4 _⟩
      case round =>
        obtain ⟨i, A3, c3, L3, hi, rfl, he3, hL3l, hL3, hlow3⟩ := hrel
        by_cases hlt : i < l.length
        · obtain ⟨b, off, rfl, hbz, hbb, hc0, hc1⟩ := leaf_at (h.below hlow3).rd hlt
          have hxok := ((h.below hlow3).ok _ (List.getElem_mem hlt)).by_
          have hxl := h.lens _ (List.getElem_mem hlt)
          have hdr : L3 = leafB l[i].k l[i].x.l ++ (l.drop (i + 1)).flatMap fun o => leafB o.k o.x.l := by rw [hL3.out, List.drop_eq_getElem_cons hlt, List.flatMap_cons]
          have hne : w4.heap.size < wr.heap.size := he3.1.lt
          have hbs3 := hlow3.size
          clear hL3
          generalize hRR : ((l.drop (i + 1)).flatMap fun o : LV => leafB o.k o.x.l) = R at hdr
          have HRR := Lib.hid hRR
          clear hRR
          generalize l[i] = x at *
          obtain ⟨k, xA, xc, xl⟩ := x
          dsimp only at *
          have hRl : R.length ≤ 25400 := by rw [hdr, List.length_append] at hL3l; omega
          have HB := Lib.hid (leafS_back k xl R)
          have hLL : (leafB k xl ++ R).length ≤ 140737488355328 := by rw [← hdr]; omega
          have hzE : ¬ (fun b => b < w4.heap.size) w4.heap.size := by simp
          rw [hdr] at he3
          clear hdr
          have he4 := he3.below ((Below.refl wr.heap.size wr).alloc (Nat.le_refl _) (.cells #[.int .i64 k, .slice xA xl.length xc] 24))
          have hx1 := Blk.new wr 24 #[.int .i64 k, .slice xA xl.length xc]
          have hlowx := hlow3.alloc hbs3 (.cells #[.int .i64 k, .slice xA xl.length xc] 24)
          have hyx := hxok.alloc (.cells #[.int .i64 k, .slice xA xl.length xc] 24)
          have hzx : (wr.alloc (.cells #[.int .i64 k, .slice xA xl.length xc] 24)).heap.size = wr.heap.size + 1 := by simp
          go_wp2_with fail
          generalize wr.alloc (.cells #[.int .i64 k, .slice xA xl.length xc] 24) = W0 at *
          refine (leafCheckR_any k xA xl.length xc _ hxl).mono ?_
          rintro e w5 ⟨rfl, hb5⟩
          have he5 := he4.below hb5
          have hx5 := hx1.below hb5
          have hlow5 := hlowx.trans (hb5.mono (by omega))
          have hy5 := hyx.below hb5
          have hs5 := hb5.size
          clear he3 he4 hx1 hlowx hyx hb5 hc0 hc1 hxok
          by_cases hck : checkN k xl.length = 0
          · have hbk : backK k xl = k.toNat ∧ backL k xl = xl := by unfold backK backL; rw [if_neg (by simpa using hck), if_neg (by simpa using hck)]; exact ⟨rfl, rfl⟩
            have hk3 := (checkN_ok hck).1
            rw [hbk.1, hbk.2] at HB
            obtain ⟨n, rfl⟩ : ∃ n : Nat, k = n := ⟨k.toNat, by omega⟩
            rw [Int.toNat_natCast] at HB
            rw [hck]
            generalize w5 = W at *
            have bW := hx5
            have heW := he5
            have hlowW := hlow5
            have q0 : W.cell? ⟨wr.heap.size, 0, none⟩ = some (.int .i64 n) := bW.cell 0
            have q1 : W.cell? ⟨wr.heap.size, 1, none⟩ = some (.slice xA xl.length xc) := bW.cell 1
            go_wp2_with fail
            go_region_held3 (fun w' => w'.cell? ⟨wr.heap.size, 0, none⟩ = some (.int .i64 n) ∧ w'.cell? ⟨wr.heap.size, 1, none⟩ = some (.slice xA xl.length xc))
              (first | assumption | exact ⟨q0, q1⟩ | exact ⟨r0, r1⟩ | exact ⟨s0, s1⟩)
              (first
              | (go_at_call 21; refine (leafRead_any w4.heap.size _ A3 c3 _ 0 _ (heW.below (Below.refl _ _).drew) hzE hLL).mono ?_; rw [HB.out]; rintro e w6 ⟨A6, c6, l6, rfl, hl6, ho6, hk⟩; have b6 : Blk w6 wr.heap.size 24 #[.int .i64 n, .slice xA xl.length xc] := (bW.below (Below.refl _ _).drew).fr hk.fr (by omega); have r0 : w6.cell? ⟨wr.heap.size, 0, none⟩ = some (.int .i64 n) := b6.cell 0; have r1 : w6.cell? ⟨wr.heap.size, 1, none⟩ = some (.slice xA xl.length xc) := b6.cell 1; obtain ⟨A7, c7, he7⟩ := hk.at_; have hs6 : W.heap.size ≤ w6.heap.size := hk.fr.size)
              | (go_at_call 14; refine (leafSameR_any _ _ A6 xA c6 xc l6 xl _ _ _ ho6.rd ((hy5.below (Below.refl _ _).drew).fr hk.fr (fun b hb hz e => by omega))).mono ?_; rw [show ((n : Int) == (n : Int) && l6 == xl) = true by rw [hl6.out]; simp]; rintro e w8 ⟨rfl, hb8⟩; have s0 : w8.cell? ⟨wr.heap.size, 0, none⟩ = some (.int .i64 n) := (b6.below hb8).cell 0; have s1 : w8.cell? ⟨wr.heap.size, 1, none⟩ = some (.slice xA xl.length xc) := (b6.below hb8).cell 1))
            go_wp2_with fail
            go_roundw
            case rel => exact ⟨i + 1, A7, c7, R, hlt, by go_num, he7.below hb8, hRl, HRR.out.symm, (hlowW.drew.trans (hk.fr.below (show w.heap.size ≤ W.heap.size from hlowW.size) (fun k hk e => by omega))).trans (hb8.mono (Nat.le_trans hlowW.size hs6))⟩
            case measure => simp [intOf]; omega
          · have hbk : backK k xl = 0 ∧ backL k xl = [] := by unfold backK backL; rw [if_pos hck, if_pos hck]; exact ⟨rfl, rfl⟩
            have hckb : (checkN k xl.length != 0) = true := by simpa using hck
            rw [hbk.1, hbk.2] at HB
            have g0 := hx5.cell 0
            have g1 := hx5.cell 1
            have g2 := hx5.frozen 0
            have g3 := hx5.frozen 1
            obtain ⟨bW, hfW⟩ := Blk.two (x' := .int .i64 0) (y' := .slice none 0 0) hx5
            have heW := he5.fr hfW (by omega) (fun b hb hz e => by omega)
            have hlowW := hlow5.trans (hfW.below (by omega) (fun k hk e => by omega))
            have hsW := hfW.size
            have q0 : ((w5.setCell ⟨wr.heap.size, 0, none⟩ (.int .i64 0)).setCell ⟨wr.heap.size, 1, none⟩ (.slice none 0 0)).cell? ⟨wr.heap.size, 0, none⟩ = some (.int .i64 0) := bW.cell 0
            have q1 : ((w5.setCell ⟨wr.heap.size, 0, none⟩ (.int .i64 0)).setCell ⟨wr.heap.size, 1, none⟩ (.slice none 0 0)).cell? ⟨wr.heap.size, 1, none⟩ = some (.slice none 0 0) := bW.cell 1
            go_wp2_with fail
            generalize (w5.setCell ⟨wr.heap.size, 0, none⟩ (.int .i64 0)).setCell ⟨wr.heap.size, 1, none⟩ (.slice none 0 0) = W at *
            go_region_held3 (fun w' => w'.cell? ⟨wr.heap.size, 0, none⟩ = some (.int .i64 0) ∧ w'.cell? ⟨wr.heap.size, 1, none⟩ = some (.slice none 0 0))
              (first | assumption | exact ⟨q0, q1⟩ | exact ⟨r0, r1⟩ | exact ⟨s0, s1⟩)
              (first
              | (go_at_call 21; refine (leafRead_any w4.heap.size _ A3 c3 _ 0 _ (heW.below (Below.refl _ _).drew) hzE hLL).mono ?_; rw [HB.out]; rintro e w6 ⟨A6, c6, l6, rfl, hl6, ho6, hk⟩; have b6 : Blk w6 wr.heap.size 24 #[.int .i64 0, .slice none 0 0] := (bW.below (Below.refl _ _).drew).fr hk.fr (by omega); have r0 : w6.cell? ⟨wr.heap.size, 0, none⟩ = some (.int .i64 0) := b6.cell 0; have r1 : w6.cell? ⟨wr.heap.size, 1, none⟩ = some (.slice none 0 0) := b6.cell 1; obtain ⟨A7, c7, he7⟩ := hk.at_; have hs6 : W.heap.size ≤ w6.heap.size := hk.fr.size)
              | (go_at_call 14; refine (leafSameR_any _ _ A6 none c6 0 l6 [] _ _ _ ho6.rd (Rd.nil (Z := fun _ => True))).mono ?_; rw [show ((0 : Int) == 0 && l6 == ([] : List UInt8)) = true by rw [hl6.out]; simp]; rintro e w8 ⟨rfl, hb8⟩; have s0 : w8.cell? ⟨wr.heap.size, 0, none⟩ = some (.int .i64 0) := (b6.below hb8).cell 0; have s1 : w8.cell? ⟨wr.heap.size, 1, none⟩ = some (.slice none 0 0) := (b6.below hb8).cell 1))
            go_wp2_with fail
            go_roundw
            case rel => exact ⟨i + 1, A7, c7, R, hlt, by go_num, he7.below hb8, hRl, HRR.out.symm, (hlowW.drew.trans (hk.fr.below (show w.heap.size ≤ W.heap.size from hlowW.size) (fun k hk e => by omega))).trans (hb8.mono (Nat.le_trans hlowW.size hs6))⟩
            case measure => simp [intOf]; omega
        · have e : i = l.length := by omega
          subst e
          obtain rfl : L3 = [] := by rw [hL3.out]; simp
          have hbs3 := hlow3.size
          go_wp2_with fail
          refine (close_any w4.heap.size _ A3 c3 [] 0 _ he3).mono ?_
          rintro e w5 ⟨rfl, rfl⟩
          go_wp2_with fail
          refine (lives07_any _).mono ?_
          rintro e w6 ⟨rfl, hb6⟩
          go_wp2_with fail
          go_ret
          exact ⟨rfl, hlow3.trans (hb6.mono hbs3)⟩
end Go.Proofs.Ytofllgmieciakab
