/- EntryWrites is true for every input: the bytes of any entries are the document's; right ones are read of them as they were. No condition beyond the row's own. -/
import Derived.Test.YtofllgmieciakabEntryBytes
import Derived.Test.YtofllgmieciakabEntryRead
import Derived.Test.YtofllgmieciakabLives21
import Derived.Test.YtofllgmieciakabBackMath
import Derived.Deep.RegionHeld3
import Derived.Deep.RegionLaw
namespace Go.Proofs.Ytofllgmieciakab
open Go.RowKit Go.WideShapes Go.ChangeShapes Go.ChangeAt

theorem leafS_again {k : Int} {l : List UInt8} (t : List UInt8) (hck : checkN k l.length = 0) : leafS (leafB k l ++ t) 0 = (k.toNat, l, t, 0) := by
  obtain ⟨hk, hn0, hl⟩ := checkN_ok hck
  by_cases hk1 : k = 1
  · rw [leafB_file hck hk1]
    subst hk1
    unfold leafS
    rw [List.append_assoc, int_numB _ (by omega) (by omega)]
    dsimp only
    rw [if_pos rfl, text_textB t (by omega) (by omega)]
    simp
  · rw [leafB_other hck hk1]
    have hl0 : l = [] := List.eq_nil_of_length_eq_zero (hn0 hk1)
    unfold leafS
    rw [int_numB _ (by omega) (by omega)]
    have hk2 : ¬ k.toNat = 1 := by omega
    subst hl0
    simp [hk2]
theorem checkE_ok {p : List UInt8} {v k : Int} {n : Nat} (h : checkE p v k n = 0) : p.length ≤ 96 ∧ checkN k n = 0 := by
  unfold checkE at h
  cases hu : userB p
  · rw [hu, if_pos rfl] at h; simp at h
  · rw [hu, if_neg (by simp)] at h
    cases hv : isV v
    · rw [hv, if_pos rfl] at h; simp at h
    · rw [hv, if_neg (by simp)] at h
      refine ⟨?_, h⟩
      unfold userB at hu
      rw [Bool.and_eq_true] at hu
      exact goodB_len hu.1
theorem checkE_bad {p : List UInt8} {v k : Int} {n : Nat} (h : checkE p v k n ≠ 0) : checkE p v k n = 23 ∨ checkE p v k n = 2 ∨ checkE p v k n = 13 := by
  revert h
  unfold checkE checkN
  repeat' split
  all_goals simp
theorem entS_back {p l : List UInt8} {n : Nat} {k : Int} (t : List UInt8) (hn : n < 18446744073709551616) (h : checkE p (n : Int) k l.length = 0) : entS (entB p l (n : Int) k ++ t) 0 = ⟨p, n, k.toNat, l, t, 0⟩ := by
  obtain ⟨hp, hck⟩ := checkE_ok h
  obtain ⟨hk, _, _⟩ := checkN_ok hck
  rw [entB_good h, Int.toNat_natCast, List.append_assoc, List.append_assoc]
  unfold entS
  rw [text_textB _ (by omega) (by omega)]
  dsimp only
  rw [read_numB _ hn (by omega)]
  dsimp only
  rw [leafS_again t hck]
  dsimp only
  rw [show ((k.toNat : Nat) : Int) = k by omega, if_pos h]
  simp

set_option maxRecDepth 100000 in
set_option maxHeartbeats 400000 in
theorem entryWrites_far (A : Option Addr) (c : Nat) (l : List EV) (w : World) (h : Ents w (fun b => b < w.heap.size) A l) (hl : lightE l = false) :
    Calls Try.prog 8 #[.slice A l.length c] w fun e w' => e = .returned (.bool true) ∧ Below w.heap.size w w' := by
  go_enter Try.func8, Try.ntmps8
  go_wp2_with fail
  refine (lightE_any A c l _ w h).mono ?_
  rintro e w1 ⟨rfl, hb1⟩
  rw [hl]
  go_wp2_with fail
  refine (lives21_any _).mono ?_
  rintro e w2 ⟨rfl, rfl⟩
  go_wp2_with fail
  go_ret
  exact ⟨rfl, hb1⟩

def ewRel (l : List EV) (w2 : World) (iv wv : Value) (wr : World) : Prop :=
  ∃ (i : Nat) (L : List UInt8) (A : Option Addr) (c : Nat), i ≤ l.length ∧ iv = .int .i64 (i : Int) ∧ wv = .slice A L.length c ∧ OwB wr w2.heap.size (.slice A L.length c) L ∧ Hid (L = (l.take i).flatMap EV.b) ∧ Below w2.heap.size w2 wr

set_option maxRecDepth 100000 in
set_option maxHeartbeats 1000000 in
theorem entryWrites_near (A : Option Addr) (c : Nat) (l : List EV) (w : World) (h : Ents w (fun b => b < w.heap.size) A l) (hl : lightE l = true) :
    Calls Try.prog 8 #[.slice A l.length c] w fun e w' => e = .returned (.bool true) ∧ Below w.heap.size w w' := by
  have hl2 : lensE l ≤ 20000 ∧ l.length ≤ 400 := by simpa [lightE] using hl
  have hwl := wideE_light l
  go_enter Try.func8, Try.ntmps8
  go_wp2_with fail
  refine (lightE_any A c l _ w h).mono ?_
  rintro e w1 ⟨rfl, hb1⟩
  rw [hl]
  have hs1 := hb1.size
  have hb1a := hb1.alloc hs1 (.cells #[.slice none 0 0] 49)
  have h1 := h.below hb1a
  have hp1 := Pen.new w1 (base := w1.heap.size)
  have hz1 : (w1.alloc (.cells #[.slice none 0 0] 49)).heap.size = w1.heap.size + 1 := by simp
  go_wp2_with fail
  generalize w1.alloc (.cells #[.slice none 0 0] 49) = W1 at *
  refine (entryWrite_any w1.heap.size w1.heap.size (.slice none 0 0) [] A c l _ W1 hp1 h1.rd h1.ok ?_ (by omega) (by simp; omega)).mono ?_
  · rintro b _ hb (rfl | e)
    · omega
    · simp [Value.ownBlock] at e
  rintro e w2 ⟨rfl, v2, h2⟩
  have hlow2 : Below w.heap.size w w2 := hb1a.trans (hp1.low h2 (by omega) (by omega) (by omega))
  have hp2 := h2.pen
  have hs2 := hlow2.size
  have hs12 := h2.fr.size
  go_wp2_with fail
  have hLn : (([] : List UInt8) ++ l.flatMap EV.b).length ≤ 34400 := by have := wideE_all l; rw [List.nil_append]; omega
  generalize hGL : (([] : List UInt8) ++ l.flatMap EV.b) = GL at hp2 hLn
  have HGL := Lib.hid hGL
  clear hGL h2
  go_loopw [4, 18] (fun wv iv wr => ewRel l w2 iv wv wr) (fun _ iv _ => l.length - (intOf iv).toNat)
  case atStart => exact ⟨0, [], none, 0, Nat.zero_le _, rfl, rfl, OwB.nil _ _, by show _ = _; simp, Below.refl _ _⟩
  case round =>
    obtain ⟨i, L, Aw, cw, hi, rfl, rfl, hown, hL, hlow⟩ := hrel
    have hsr := hlow.size
    have hlr := hlow2.trans (hlow.mono hs2)
    by_cases hlt : i < l.length
    · obtain ⟨b, off, rfl, _, _, hc0, hc1, hc2, hc3⟩ := ent_at (h.below hlr).rd hlt
      have hxok := (h.below hlr).ok _ (List.getElem_mem hlt)
      have hw := wideE_take l i hlt
      have hll : L.length + (36 + lenE l[i]) ≤ 34400 := by rw [hL.out]; omega
      have hLn2 := flat_take (f := EV.b) (l := []) (L := L) hlt (by rw [hL.out]; rfl)
      have HLn2 := Lib.hid hLn2
      clear hLn2 hw hL
      generalize l[i] = o at *
      obtain ⟨⟨⟨pl⟩⟩, u, k, xA, xc, xl⟩ := o
      obtain ⟨hbx, hxl, hpl0, hu, hk⟩ := hxok
      replace hll : L.length + (36 + (pl.length + xl.length)) ≤ 34400 := hll
      replace HLn2 : Hid (L ++ entB pl xl u k = [] ++ (l.take (i + 1)).flatMap EV.b) := HLn2
      dsimp only at *
      obtain ⟨n, rfl⟩ : ∃ n : Nat, u = n := ⟨u.toNat, by omega⟩
      have hxk2 := hbx.by_.alloc (.cells #[.string ⟨⟨pl⟩⟩, .int .u64 (n : Int), .int .i64 k, .slice xA xl.length xc] 58)
      dsimp only at hxk2
      have hBl := entB_len pl xl (n : Int) k
      go_wp2_with fail
      refine (refEntryBytes_any pl n k xA xc xl _ _ hxk2 (by omega) (by omega) (by omega) hk).mono ?_
      rintro e w3 ⟨A3, c3, l3, rfl, hl3, ho3, hb3⟩
      have hlw3 : Below wr.heap.size wr w3 := ((Below.refl _ _).alloc (Nat.le_refl _) _).trans (hb3.mono (by simp))
      have hs3 := hlw3.size
      have hown3 := hown.below hlw3
      have hl3l : l3.length ≤ 36 + (pl.length + xl.length) := by rw [hl3.out]; exact hBl
      go_wp2_with (at_builtin; refine wpList_append_by rfl (.tmp 22) (.tmp 24) rfl (v := .slice Aw L.length cw) rfl hown3 rfl ho3.rd (by omega) (by omega) ?_; intro L4 A4 c4 w4 hL4 hown4 hg hat)
      have hf4 := Fr.of_grown hg (S := fun x => w2.heap.size ≤ x) (fun k _ e => (hown3.lt k e).1)
      have hlow4 : Below w2.heap.size w2 w4 := (hlow.trans (hlw3.mono hsr)).trans (hf4.below (by omega) (fun k hk e => by omega))
      go_roundw
      case rel =>
        refine ⟨i + 1, L4, A4, c4, hlt, by go_num, rfl, hown4, ?_, hlow4⟩
        show _ = _
        rw [hL4.out, hl3.out]
        simpa using HLn2.out
      case measure => simp [intOf]; omega
    · have e : i = l.length := by omega
      subst e
      have hLA : Hid (L = GL) := by show _ = _; rw [hL.out, List.take_length, ← HGL.out]; simp
      have hp3 := hp2.below hlow
      clear hL hlow hlt
      generalize wr = w3 at *
      obtain ⟨A6, c6, e6, hlc6, hcm6, hA6⟩ := hown.form
      obtain ⟨rfl, rfl⟩ : Aw = A6 ∧ cw = c6 := by simpa using e6
      go_wp2_with fail
      refine (open_any Aw cw L.length w3).mono ?_
      rintro e w4 ⟨rfl, rfl⟩
      have hs3 := hlr.size
      have he := EyeAt.new w3 (T := 76) (Z := fun b => b < w3.heap.size) (hown.rd.mono (fun b hb _ => hb)) hlc6 hcm6
      have hpE := hp3.alloc (.cells #[.slice Aw L.length cw, .int .i64 0] 76)
      have howE := hown.alloc (.cells #[.slice Aw L.length cw, .int .i64 0] 76)
      have hlrE := hlr.alloc hs3 (.cells #[.slice Aw L.length cw, .int .i64 0] 76)
      have hzE : (w3.alloc (.cells #[.slice Aw L.length cw, .int .i64 0] 76)).heap.size = w3.heap.size + 1 := by simp
      go_wp2_with fail
      generalize w3.alloc (.cells #[.slice Aw L.length cw, .int .i64 0] 76) = W3 at *
      refine (Bytes_any _ _ _ _ _ hpE (by omega)).mono ?_
      rintro e w4 ⟨A4, c4, l4, rfl, hl4, ho4, hb4⟩
      obtain rfl : l4 = GL := hl4.out
      obtain rfl : L = l4 := hLA.out
      have hown4 := howE.below hb4
      have he4 := he.below hb4
      have hlow4 : Below w.heap.size w w4 := hlrE.trans (hb4.mono hlrE.size)
      go_wp2_with fail
      refine (refSame_any _ _ _ _ L L _ _ _ ho4.rd hown4.rd).mono ?_
      rw [show (L == L) = true by simp]
      rintro e w5 ⟨rfl, rfl⟩
      go_wp2_with fail
      have HLL : Hid (L = (l.drop 0).flatMap EV.b) := by show _ = _; rw [← HGL.out]; simp
      go_loopw [39] (fun iv wr => ∃ (i : Nat) (A3 : Option Addr) (c3 : Nat) (L3 : List UInt8), i ≤ l.length ∧ iv = .int .i64 (i : Int) ∧ EyeAt wr 76 w3.heap.size (fun b => b < w3.heap.size) A3 c3 L3 0 ∧ L3.length ≤ 34400 ∧ Hid (L3 = (l.drop i).flatMap EV.b) ∧ Below w.heap.size w wr) (fun iv _ => l.length - (intOf iv).toNat)
      case atStart => exact ⟨0, Aw, cw, L, Nat.zero_le _, rfl, he4, hLn, HLL, hlow4⟩
      case round =>
        obtain ⟨i, A3, c3, L3, hi, rfl, he3, hL3l, hL3, hlow3⟩ := hrel
        by_cases hlt : i < l.length
        · obtain ⟨b, off, rfl, hbz, hbb, hc0, hc1, hc2, hc3⟩ := ent_at (h.below hlow3).rd hlt
          have hxok := (h.below hlow3).ok _ (List.getElem_mem hlt)
          have hdr : L3 = EV.b l[i] ++ (l.drop (i + 1)).flatMap EV.b := by rw [hL3.out, List.drop_eq_getElem_cons hlt, List.flatMap_cons]
          have hne : w3.heap.size < wr.heap.size := he3.1.lt
          have hbs3 := hlow3.size
          clear hL3
          generalize hRR : ((l.drop (i + 1)).flatMap EV.b) = R at hdr
          have HRR := Lib.hid hRR
          clear hRR
          generalize l[i] = o at *
          obtain ⟨⟨⟨pl⟩⟩, u, k, xA, xc, xl⟩ := o
          obtain ⟨hbx, hxl, hpl0, hu, hk⟩ := hxok
          replace hpl0 : pl.length ≤ 140737488355328 := hpl0
          replace hdr : L3 = entB pl xl u k ++ R := hdr
          dsimp only at *
          obtain ⟨n, rfl⟩ : ∃ n : Nat, u = n := ⟨u.toNat, by omega⟩
          have hxby := hbx.by_
          dsimp only at hxby
          have hRl : R.length ≤ 34400 := by rw [hdr, List.length_append] at hL3l; omega
          have HCK := Lib.hid (fun w => refEntryCheck_any ⟨⟨pl⟩⟩ (n : Int) k xA xl.length xc w (by show pl.length ≤ _; omega) hu hxl)
          rw [show tl ⟨⟨pl⟩⟩ = pl from rfl] at HCK
          have hzN : ¬ (fun b => b < w3.heap.size) w3.heap.size := by simp
          have hx1 := Blk.new wr 58 #[.string ⟨⟨pl⟩⟩, .int .u64 (n : Int), .int .i64 k, .slice xA xl.length xc]
          have he4 := he3.below ((Below.refl wr.heap.size wr).alloc (Nat.le_refl _) (.cells #[.string ⟨⟨pl⟩⟩, .int .u64 (n : Int), .int .i64 k, .slice xA xl.length xc] 58))
          have hlowx := hlow3.alloc hbs3 (.cells #[.string ⟨⟨pl⟩⟩, .int .u64 (n : Int), .int .i64 k, .slice xA xl.length xc] 58)
          have hyx := hxby.alloc (.cells #[.string ⟨⟨pl⟩⟩, .int .u64 (n : Int), .int .i64 k, .slice xA xl.length xc] 58)
          have hzx : (wr.alloc (.cells #[.string ⟨⟨pl⟩⟩, .int .u64 (n : Int), .int .i64 k, .slice xA xl.length xc] 58)).heap.size = wr.heap.size + 1 := by simp
          clear he3 hxby hbx
          by_cases hck : checkE pl (n : Int) k xl.length = 0
          · have HB := Lib.hid (entS_back R (show n < 18446744073709551616 by omega) hck)
            have hLL : (entB pl xl (n : Int) k ++ R).length ≤ 140737488355328 := by rw [← hdr]; omega
            rw [hdr] at he4
            clear hdr
            have hk3 := (checkN_ok (checkE_ok hck).2).1
            obtain ⟨m, rfl⟩ : ∃ m : Nat, k = m := ⟨k.toNat, by omega⟩
            rw [Int.toNat_natCast] at HB
            rw [hck] at HCK
            clear hck
            generalize entB pl xl (n : Int) (m : Int) ++ R = E at *
            go_wp2_with fail
            generalize wr.alloc (.cells #[.string ⟨⟨pl⟩⟩, .int .u64 (n : Int), .int .i64 (m : Int), .slice xA xl.length xc] 58) = W at *
            have q0 : W.cell? ⟨wr.heap.size, 0, none⟩ = some (.string ⟨⟨pl⟩⟩) := hx1.cell 0
            have q1 : W.cell? ⟨wr.heap.size, 1, none⟩ = some (.int .u64 (n : Int)) := hx1.cell 1
            have q2 : W.cell? ⟨wr.heap.size, 2, none⟩ = some (.int .i64 (m : Int)) := hx1.cell 2
            have q3 : W.cell? ⟨wr.heap.size, 3, none⟩ = some (.slice xA xl.length xc) := hx1.cell 3
            have cd : W.drew.cell? ⟨wr.heap.size, 0, none⟩ = some (.string ⟨⟨pl⟩⟩) ∧ W.drew.cell? ⟨wr.heap.size, 1, none⟩ = some (.int .u64 (n : Int)) ∧ W.drew.cell? ⟨wr.heap.size, 2, none⟩ = some (.int .i64 (m : Int)) ∧ W.drew.cell? ⟨wr.heap.size, 3, none⟩ = some (.slice xA xl.length xc) := ⟨q0, q1, q2, q3⟩
            go_region_held3 (fun w' => w'.cell? ⟨wr.heap.size, 0, none⟩ = some (.string ⟨⟨pl⟩⟩) ∧ w'.cell? ⟨wr.heap.size, 1, none⟩ = some (.int .u64 (n : Int)) ∧ w'.cell? ⟨wr.heap.size, 2, none⟩ = some (.int .i64 (m : Int)) ∧ w'.cell? ⟨wr.heap.size, 3, none⟩ = some (.slice xA xl.length xc))
              (first | (with_reducible assumption) | (with_reducible exact cd) | (with_reducible exact ed6) | (with_reducible exact ed7) | (with_reducible exact ed8))
              (first
              | (go_at_call 33; (with_reducible refine (HCK.out _).mono ?_); rintro e w6 ⟨rfl, hb6⟩; have b6 : Blk w6 wr.heap.size 58 #[.string ⟨⟨pl⟩⟩, .int .u64 (n : Int), .int .i64 (m : Int), .slice xA xl.length xc] := (hx1.below (Below.refl _ _).drew).below hb6; have ed6 : w6.cell? ⟨wr.heap.size, 0, none⟩ = some (.string ⟨⟨pl⟩⟩) ∧ w6.cell? ⟨wr.heap.size, 1, none⟩ = some (.int .u64 (n : Int)) ∧ w6.cell? ⟨wr.heap.size, 2, none⟩ = some (.int .i64 (m : Int)) ∧ w6.cell? ⟨wr.heap.size, 3, none⟩ = some (.slice xA xl.length xc) := ⟨b6.cell 0, b6.cell 1, b6.cell 2, b6.cell 3⟩; have he6 := (he4.below (Below.refl _ _).drew).below hb6; have hy6 := (hyx.below (Below.refl _ _).drew).below hb6; have hs6 := hb6.size)
              | (go_at_call 39; refine (entryRead_any w3.heap.size _ A3 c3 _ 0 _ he6 hzN hLL).mono ?_; rw [HB.out]; rintro e w7 ⟨p7, A7, c7, l7, rfl, hp7, hl7, ho7, hk7⟩; have b7 : Blk w7 wr.heap.size 58 #[.string ⟨⟨pl⟩⟩, .int .u64 (n : Int), .int .i64 (m : Int), .slice xA xl.length xc] := b6.fr hk7.fr (by omega); have ed7 : w7.cell? ⟨wr.heap.size, 0, none⟩ = some (.string ⟨⟨pl⟩⟩) ∧ w7.cell? ⟨wr.heap.size, 1, none⟩ = some (.int .u64 (n : Int)) ∧ w7.cell? ⟨wr.heap.size, 2, none⟩ = some (.int .i64 (m : Int)) ∧ w7.cell? ⟨wr.heap.size, 3, none⟩ = some (.slice xA xl.length xc) := ⟨b7.cell 0, b7.cell 1, b7.cell 2, b7.cell 3⟩; have hy7 := hy6.fr hk7.fr (fun b hb hz e => by omega); have hs7 := hk7.fr.size)
              | (go_at_call 35; refine (refEntrySame_any p7 ⟨⟨pl⟩⟩ _ _ _ _ A7 xA c7 xc l7 xl _ _ _ ho7.rd hy7).mono ?_; rw [show sameE (tl p7) (tl ⟨⟨pl⟩⟩) (n : Int) (n : Int) (m : Int) (m : Int) l7 xl = true by unfold sameE; rw [hp7.out, hl7.out]; simp]; rintro e w8 ⟨rfl, hb8⟩; have b8 := b7.below hb8; have ed8 : w8.cell? ⟨wr.heap.size, 0, none⟩ = some (.string ⟨⟨pl⟩⟩) ∧ w8.cell? ⟨wr.heap.size, 1, none⟩ = some (.int .u64 (n : Int)) ∧ w8.cell? ⟨wr.heap.size, 2, none⟩ = some (.int .i64 (m : Int)) ∧ w8.cell? ⟨wr.heap.size, 3, none⟩ = some (.slice xA xl.length xc) := ⟨b8.cell 0, b8.cell 1, b8.cell 2, b8.cell 3⟩))
            obtain ⟨A9, c9, he9⟩ := hk7.at_
            have hsx := hlowx.size
            have hl6 : Below w.heap.size w w6 := hlowx.drew.trans (hb6.mono hsx)
            have hl7 : Below w.heap.size w w7 := hl6.trans (hk7.fr.below hl6.size (fun k hk e => by omega))
            go_wp2_with fail
            go_roundw
            case rel => exact ⟨i + 1, A9, c9, R, hlt, by go_num, he9.below hb8, hRl, HRR.out.symm, hl7.trans (hb8.mono hl7.size)⟩
            case measure => simp [intOf]; omega
          · have hC3 := checkE_bad hck
            rw [entB_bad hck, List.nil_append] at hdr
            clear hck
            subst hdr
            generalize checkE pl (n : Int) k xl.length = C at *
            rcases hC3 with rfl | rfl | rfl
            all_goals
              go_wp2_with fail
              generalize wr.alloc (.cells #[.string ⟨⟨pl⟩⟩, .int .u64 (n : Int), .int .i64 k, .slice xA xl.length xc] 58) = W at *
              have q0 : W.cell? ⟨wr.heap.size, 0, none⟩ = some (.string ⟨⟨pl⟩⟩) := hx1.cell 0
              have q1 : W.cell? ⟨wr.heap.size, 1, none⟩ = some (.int .u64 (n : Int)) := hx1.cell 1
              have q2 : W.cell? ⟨wr.heap.size, 2, none⟩ = some (.int .i64 k) := hx1.cell 2
              have q3 : W.cell? ⟨wr.heap.size, 3, none⟩ = some (.slice xA xl.length xc) := hx1.cell 3
              have cd : W.drew.cell? ⟨wr.heap.size, 0, none⟩ = some (.string ⟨⟨pl⟩⟩) ∧ W.drew.cell? ⟨wr.heap.size, 1, none⟩ = some (.int .u64 (n : Int)) ∧ W.drew.cell? ⟨wr.heap.size, 2, none⟩ = some (.int .i64 k) ∧ W.drew.cell? ⟨wr.heap.size, 3, none⟩ = some (.slice xA xl.length xc) := ⟨q0, q1, q2, q3⟩
              first
              | (go_region_law (first | (go_simp; go_at_call 33; (with_reducible refine (HCK.out _).mono ?_); rintro e w6 ⟨rfl, hb6⟩; have he6 := (he4.below (Below.refl _ _).drew).below hb6; go_wp2_with fail)))
              | fail "region"
              all_goals
                have hsx := hlowx.size
                have hl6 : Below w.heap.size w w6 := hlowx.drew.trans (hb6.mono hsx)
                go_wp2_with fail
                go_roundw
                case rel => exact ⟨i + 1, A3, c3, _, hlt, by go_num, he6, hRl, HRR.out.symm, hl6⟩
                case measure => simp [intOf]; omega
        · have e : i = l.length := by omega
          subst e
          obtain rfl : L3 = [] := by rw [hL3.out]; simp
          have hbs3 := hlow3.size
          go_wp2_with fail
          refine (close_any w3.heap.size _ A3 c3 [] 0 _ he3).mono ?_
          rintro e w5 ⟨rfl, rfl⟩
          go_wp2_with fail
          refine (lives21_any _).mono ?_
          rintro e w6 ⟨rfl, rfl⟩
          go_wp2_with fail
          go_ret
          exact ⟨rfl, hlow3⟩
end Go.Proofs.Ytofllgmieciakab
