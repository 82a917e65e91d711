/- tenderref03: Move. -/
import Derived.Test.YtffimpjjdhnajaaNameRefUnder
import Derived.Test.YtffimpjjdhnajaaNamePaste
import Derived.Test.YtffimpjjdhnajaaNameMove
namespace Go.Proofs.Ytffimpjjdhnajaa
open Go.RowKit

theorem Sts.rd {w : World} {base c : Nat} {A : Option Addr} {l : List (List UInt8)} (h : Sts w base A c l) : Rd w (fun b => ablk A = some b) 1 A l.length (l.map stv) := Row.rd h
set_option maxRecDepth 100000 in
set_option maxHeartbeats 1000000 in
theorem refMove_any (p f t : ByteArray) (hp : p.size ≤ 1048576) (hf : f.size ≤ 1048576) (ht : t.size ≤ 1048576) (w : World) : Calls Try.prog 20 #[.string p, .string f, .string t] w fun e w' => ∃ s, e = .returned (.string s) ∧ Hid (tl s = (moveT (tl p) (tl f) (tl t)).1) ∧ Below w.heap.size w w' := by
  obtain ⟨M, hM⟩ : ∃ M, M = (moveT (tl p) (tl f) (tl t)).1 := ⟨_, rfl⟩
  rw [← hM]
  cases gp : goodB (tl p)
  · have HP := Lib.hid (refGood_no p (by omega) gp)
    have HM : Hid (M = []) := by show _ = _; rw [hM]; unfold moveT; rw [gp]; rfl
    clear gp hM
    go_enter Try.func20, Try.ntmps20
    go_wp2_with fail
    refine (HP.out _).mono ?_
    rintro e w1 ⟨rfl, hb1⟩
    go_wp2_with fail
    go_ret
    exact ⟨_, rfl, HM.out.symm, hb1⟩
  have HP := Lib.hid (refGood_yes p (by omega) gp)
  cases gf : goodB (tl f)
  · have HF := Lib.hid (refGood_no f (by omega) gf)
    have HM : Hid (M = []) := by show _ = _; rw [hM]; unfold moveT; rw [gp, gf]; rfl
    clear gp gf hM
    go_enter Try.func20, Try.ntmps20
    go_wp2_with fail
    refine (HP.out _).mono ?_
    rintro e w1 ⟨rfl, hb1⟩
    go_wp2_with fail
    refine (HF.out _).mono ?_
    rintro e w2 ⟨rfl, hb2⟩
    go_wp2_with fail
    go_ret
    exact ⟨_, rfl, HM.out.symm, bthen hb1 hb2⟩
  have HF := Lib.hid (refGood_yes f (by omega) gf)
  cases gt : goodB (tl t)
  · have HT := Lib.hid (refGood_no t (by omega) gt)
    have HM : Hid (M = []) := by show _ = _; rw [hM]; unfold moveT; rw [gp, gf, gt]; rfl
    clear gp gf gt hM
    go_enter Try.func20, Try.ntmps20
    go_wp2_with fail
    refine (HP.out _).mono ?_
    rintro e w1 ⟨rfl, hb1⟩
    go_wp2_with fail
    refine (HF.out _).mono ?_
    rintro e w2 ⟨rfl, hb2⟩
    go_wp2_with fail
    refine (HT.out _).mono ?_
    rintro e w3 ⟨rfl, hb3⟩
    go_wp2_with fail
    go_ret
    exact ⟨_, rfl, HM.out.symm, bthen (bthen hb1 hb2) hb3⟩
  have HT := Lib.hid (refGood_yes t (by omega) gt)
  have HU := Lib.hid (fun w => refUnder_any p f (by omega) (by omega) w)
  have hts := goodB_len gt
  rw [tl_len] at hts
  have hps := goodB_len gp
  rw [tl_len] at hps
  have hfs := goodB_len gf
  rw [tl_len] at hfs
  by_cases hor : p = f ∨ preB (tl p) (tl f) = true
  · have hor2 : (tl p == tl f || underB (tl p) (tl f)) = true := by
      rcases hor with h | h
      · rw [h]; simp
      · unfold underB; rw [gp, gf, h]; simp
    have hmp := move_parts (p := tl p) (f := tl f) (tl t) (hor.imp (fun h => by rw [h]) id)
    have hle : (cutL (tl f)).length ≤ (cutL (tl p)).length := by
      rcases hor with h | h
      · rw [h]; exact Nat.le_refl _
      · obtain ⟨T, _, e⟩ := (preB_iff _ _).1 h
        rw [e, List.length_append]; omega
    have HM : Hid (M = if goodB (pasteL (cutL (tl t) ++ (cutL (tl p)).drop (cutL (tl f)).length)) then pasteL (cutL (tl t) ++ (cutL (tl p)).drop (cutL (tl f)).length) else []) := by
      show _ = _
      rw [hM, hmp]; unfold moveT; rw [gp, gf, gt, hor2]
      cases goodB (tl t ++ (tl p).drop (tl f).length) <;> rfl
    have hlen : (pasteL (cutL (tl t) ++ (cutL (tl p)).drop (cutL (tl f)).length)).length ≤ 192 := by
      rw [hmp, List.length_append, List.length_drop, tl_len, tl_len]
      omega
    generalize hL : cutL (tl t) ++ (cutL (tl p)).drop (cutL (tl f)).length = L at *
    have HL := Lib.hid hL
    clear hL hmp
    obtain ⟨i0, hi0, hz0, hz1, hz2⟩ := info_parts str_info
    by_cases hpf : p = f
    · have hn := neq_yes hpf
      clear gp gf gt hor hor2 hM hpf HU
      go_enter Try.func20, Try.ntmps20
      go_wp2_with fail
      refine (HP.out _).mono ?_
      rintro e w1 ⟨rfl, hb1⟩
      go_wp2_with fail
      refine (HF.out _).mono ?_
      rintro e w2 ⟨rfl, hb2⟩
      go_wp2_with fail
      refine (HT.out _).mono ?_
      rintro e w3 ⟨rfl, hb3⟩
      replace hb3 := bthen (bthen hb1 hb2) hb3
      go_wp2_with fail
      have hr0 : Row (w3.alloc (.cells #[] 9)) w3.heap.size 9 1 (some ⟨w3.heap.size, 0, none⟩) 0 0 [] := Row.of_own (World.ownsRow_lit (base := w3.heap.size) (e := 9) (size := 1) w3 #[] 0 (Nat.le_refl _) (by simp [maxLen]) (by simp))
      refine (refCut_any t (by omega) _).mono ?_
      rintro e w4 ⟨A, c, x, rfl, hx, hsx, hb4⟩
      have hxl : x.length ≤ 97 := by
        have := cutL_len (tl t)
        rw [hx.out]
        rw [tl_len] at this
        omega
      have hr4 := hr0.below hb4
      have hb4' : Below w3.heap.size w3 w4 := bthen ((Below.refl _ _).alloc (Nat.le_refl _) _) hb4
      have hsz4 := hb4'.size
      go_wp2_with (at_builtin; refine wpList_append_row _ rfl (.tmp 32) (.tmp 34) 31 rfl w3.heap.size 9 i0 _ 1 16 Try.underlying31 hi0 hz0 hz1 hz2 rfl (by omega) rfl hr4 rfl hsx.rd (st_one _) (by simp only [maxLen]; omega) (by omega) hsz4 ?_; intro A5 c5 w5 hr5 hg5 hat5)
      have hb5 : Below w3.heap.size w3 w5 := hb4'.grown hg5 hsz4 (fun k e => by injection e with e; have e' : w3.heap.size = k := e; omega)
      have hs5 := hb5.size
      rw [Nat.zero_add, List.nil_append] at hr5
      clear hr4 hr0 hsx hb4' hsz4
      refine (refCut_any p (by omega) _).mono ?_
      rintro e w6 ⟨A', c', y, rfl, hy, hsy, hb6⟩
      go_wp2_with fail
      refine (refCut_any f (by omega) _).mono ?_
      rintro e w7 ⟨A'', c'', z, rfl, hz, hsz, hb7⟩
      have hb67 := bthen hb6 hb7
      have hr7 := hr5.below hb67
      have hb7' : Below w3.heap.size w3 w7 := hb5.trans (hb67.mono hs5)
      have hs7 := hb7'.size
      replace hsy := Sts.below hsy hb7
      rw [← hy.out, ← hz.out] at hle
      have hz1' : 0 < z.length := by rw [hz.out]; exact cutL_pos _
      have hyl : y.length ≤ 97 := by
        have := cutL_len (tl p)
        rw [hy.out]
        rw [tl_len] at this
        omega
      have HL2 : Hid (x ++ y.drop z.length = L) := by show _ = _; rw [hx.out, hy.out, hz.out]; exact HL.out
      obtain ⟨g, off, rfl, hgb, hgl⟩ := Row.addr hsy (by omega)
      have hcy := hsy.room
      have hcm := hsy.cap
      have hmx : maxLen = 9223372036854775807 := rfl
      rw [hmx] at hcm
      have b1 : (z.length : Int) ≤ (y.length : Int) := by omega
      have b2 : (y.length : Int) ≤ (c' : Int) := by omega
      have hLn : Hid (L.length = x.length + (y.length - z.length)) := by show _ = _; rw [← HL2.out, List.length_append, List.length_drop]
      have HC := Lib.hid (Row.tail hsy hle)
      have HLm : Hid (L.map stv = x.map stv ++ (y.map stv).drop (z.length * 1)) := by show _ = _; rw [← HL2.out, List.map_append, List.map_drop, Nat.mul_one]
      have HX := Lib.hid hxl
      clear hx hy hz hle hb6 hb7 hb67 hr5 hg5 hat5 hb5
      by_cases hck : c' = z.length
      · have hyz : y.length = z.length := by omega
        have HC3 : Hid (Rd w7 (fun _ => True) 1 (some ⟨g, off, none⟩) 0 []) := Rd.nil
        have HD : Hid (y.drop z.length = []) := List.drop_of_length_le (by omega)
        have HE : Hid (x.length + 0 = L.length) := by show _ = _; rw [hLn.out]; omega
        have HL3 : Hid (L.map stv = x.map stv ++ []) := by show _ = _; rw [← HL2.out, HD.out]; simp
        subst hck
        clear HC HD hyz
        go_wp2_with (at_builtin; refine wpList_append_row _ rfl (.tmp 35) (.tmp 41) 31 rfl w3.heap.size 9 i0 _ 1 16 Try.underlying31 hi0 hz0 hz1 hz2 rfl (by omega) rfl hr7 rfl HC3.out (by simp) (by simp only [maxLen]; omega) (by omega) hs7 ?_; intro A8 c8 w8 hr8 hg8 hat8; rw [HE.out, ← HL3.out] at hr8; rw [HE.out])
        have hb8 : Below w3.heap.size w3 w8 := hb7'.grown hg8 hs7 (fun k e => (hr7.lt k e).1)
        have hbw8 := bthen hb3 hb8
        have hLl : L.length ≤ 1048576 := by have := hLn.out; omega
        have HR8 := Lib.hid hr8.rd
        clear hr8 hg8 hat8 hb8 hb7' hb3 hr7 hsy hsz
        refine (paste_any A8 c8 L _ w8 HR8.out hLl (by omega)).mono ?_
        rintro e w9 ⟨s1, rfl, hs1, hq9⟩
        have hsz1 : s1.size ≤ 192 := by have := congrArg List.length hs1.out; rw [tl_len] at this; omega
        go_wp2_with fail
        refine (refGood_any s1 (by omega) _).mono ?_
        rw [hs1.out]
        rintro e w10 ⟨rfl, hb10⟩
        replace hb10 := bthen hq9.below hb10
        cases hgo : goodB (pasteL L)
        · rw [hgo] at HM
          have HG := Lib.hid hgo
          clear hgo
          go_wp2_with fail
          go_ret
          exact ⟨_, rfl, HM.out.symm, bthen hbw8 hb10⟩
        · rw [hgo] at HM
          have HG := Lib.hid hgo
          clear hgo
          go_wp2_with fail
          refine (paste_any A8 c8 L _ w10 (HR8.out.below hb10) hLl (by omega)).mono ?_
          rintro e w11 ⟨s2, rfl, hs2, hq11⟩
          go_wp2_with fail
          go_ret
          exact ⟨_, rfl, hs2.out.trans HM.out.symm, bthen hbw8 (bthen hb10 hq11.below)⟩
      · have HC2 := HC.out
        rw [if_neg hck, Option.map_some, add_none, Nat.mul_one] at HC2
        have HC3 := Lib.hid HC2.rd
        rw [Nat.mul_one] at HLm
        have b3 : ¬ c' - z.length = 0 := by omega
        clear HC2 HC
        go_wp2_with (at_builtin; refine wpList_append_row _ rfl (.tmp 35) (.tmp 41) 31 rfl w3.heap.size 9 i0 _ 1 16 Try.underlying31 hi0 hz0 hz1 hz2 rfl (by omega) rfl hr7 rfl HC3.out (fun u hu => st_one _ u (List.mem_of_mem_drop hu)) (by simp only [maxLen]; omega) (by omega) hs7 ?_; intro A8 c8 w8 hr8 hg8 hat8; rw [← hLn.out, ← HLm.out] at hr8; rw [← hLn.out])
        have hb8 : Below w3.heap.size w3 w8 := hb7'.grown hg8 hs7 (fun k e => (hr7.lt k e).1)
        have hbw8 := bthen hb3 hb8
        have hLl : L.length ≤ 1048576 := by have := hLn.out; omega
        have HR8 := Lib.hid hr8.rd
        clear hr8 hg8 hat8 hb8 hb7' hb3 hr7 hsy hsz
        refine (paste_any A8 c8 L _ w8 HR8.out hLl (by omega)).mono ?_
        rintro e w9 ⟨s1, rfl, hs1, hq9⟩
        have hsz1 : s1.size ≤ 192 := by have := congrArg List.length hs1.out; rw [tl_len] at this; omega
        go_wp2_with fail
        refine (refGood_any s1 (by omega) _).mono ?_
        rw [hs1.out]
        rintro e w10 ⟨rfl, hb10⟩
        replace hb10 := bthen hq9.below hb10
        cases hgo : goodB (pasteL L)
        · rw [hgo] at HM
          have HG := Lib.hid hgo
          clear hgo
          go_wp2_with fail
          go_ret
          exact ⟨_, rfl, HM.out.symm, bthen hbw8 hb10⟩
        · rw [hgo] at HM
          have HG := Lib.hid hgo
          clear hgo
          go_wp2_with fail
          refine (paste_any A8 c8 L _ w10 (HR8.out.below hb10) hLl (by omega)).mono ?_
          rintro e w11 ⟨s2, rfl, hs2, hq11⟩
          go_wp2_with fail
          go_ret
          exact ⟨_, rfl, hs2.out.trans HM.out.symm, bthen hbw8 (bthen hb10 hq11.below)⟩
    · have hn := neq_no hpf
      have hpu : preB (tl p) (tl f) = true := hor.resolve_left hpf
      have hut : underB (tl p) (tl f) = true := by unfold underB; rw [gp, gf, hpu]; rfl
      rw [hut] at HU
      clear gp gf gt hor hor2 hM hpf hpu hut
      go_enter Try.func20, Try.ntmps20
      go_wp2_with fail
      refine (HP.out _).mono ?_
      rintro e w1 ⟨rfl, hb1⟩
      go_wp2_with fail
      refine (HF.out _).mono ?_
      rintro e w2 ⟨rfl, hb2⟩
      go_wp2_with fail
      refine (HT.out _).mono ?_
      rintro e w0 ⟨rfl, hb0⟩
      replace hb0 := bthen (bthen hb1 hb2) hb0
      go_wp2_with fail
      refine (HU.out _).mono ?_
      rintro e w3 ⟨rfl, hb3⟩
      replace hb3 := bthen hb0 hb3
      go_wp2_with fail
      have hr0 : Row (w3.alloc (.cells #[] 9)) w3.heap.size 9 1 (some ⟨w3.heap.size, 0, none⟩) 0 0 [] := Row.of_own (World.ownsRow_lit (base := w3.heap.size) (e := 9) (size := 1) w3 #[] 0 (Nat.le_refl _) (by simp [maxLen]) (by simp))
      refine (refCut_any t (by omega) _).mono ?_
      rintro e w4 ⟨A, c, x, rfl, hx, hsx, hb4⟩
      have hxl : x.length ≤ 97 := by
        have := cutL_len (tl t)
        rw [hx.out]
        rw [tl_len] at this
        omega
      have hr4 := hr0.below hb4
      have hb4' : Below w3.heap.size w3 w4 := bthen ((Below.refl _ _).alloc (Nat.le_refl _) _) hb4
      have hsz4 := hb4'.size
      go_wp2_with (at_builtin; refine wpList_append_row _ rfl (.tmp 32) (.tmp 34) 31 rfl w3.heap.size 9 i0 _ 1 16 Try.underlying31 hi0 hz0 hz1 hz2 rfl (by omega) rfl hr4 rfl hsx.rd (st_one _) (by simp only [maxLen]; omega) (by omega) hsz4 ?_; intro A5 c5 w5 hr5 hg5 hat5)
      have hb5 : Below w3.heap.size w3 w5 := hb4'.grown hg5 hsz4 (fun k e => by injection e with e; have e' : w3.heap.size = k := e; omega)
      have hs5 := hb5.size
      rw [Nat.zero_add, List.nil_append] at hr5
      clear hr4 hr0 hsx hb4' hsz4
      refine (refCut_any p (by omega) _).mono ?_
      rintro e w6 ⟨A', c', y, rfl, hy, hsy, hb6⟩
      go_wp2_with fail
      refine (refCut_any f (by omega) _).mono ?_
      rintro e w7 ⟨A'', c'', z, rfl, hz, hsz, hb7⟩
      have hb67 := bthen hb6 hb7
      have hr7 := hr5.below hb67
      have hb7' : Below w3.heap.size w3 w7 := hb5.trans (hb67.mono hs5)
      have hs7 := hb7'.size
      replace hsy := Sts.below hsy hb7
      rw [← hy.out, ← hz.out] at hle
      have hz1' : 0 < z.length := by rw [hz.out]; exact cutL_pos _
      have hyl : y.length ≤ 97 := by
        have := cutL_len (tl p)
        rw [hy.out]
        rw [tl_len] at this
        omega
      have HL2 : Hid (x ++ y.drop z.length = L) := by show _ = _; rw [hx.out, hy.out, hz.out]; exact HL.out
      obtain ⟨g, off, rfl, hgb, hgl⟩ := Row.addr hsy (by omega)
      have hcy := hsy.room
      have hcm := hsy.cap
      have hmx : maxLen = 9223372036854775807 := rfl
      rw [hmx] at hcm
      have b1 : (z.length : Int) ≤ (y.length : Int) := by omega
      have b2 : (y.length : Int) ≤ (c' : Int) := by omega
      have hLn : Hid (L.length = x.length + (y.length - z.length)) := by show _ = _; rw [← HL2.out, List.length_append, List.length_drop]
      have HC := Lib.hid (Row.tail hsy hle)
      have HLm : Hid (L.map stv = x.map stv ++ (y.map stv).drop (z.length * 1)) := by show _ = _; rw [← HL2.out, List.map_append, List.map_drop, Nat.mul_one]
      have HX := Lib.hid hxl
      clear hx hy hz hle hb6 hb7 hb67 hr5 hg5 hat5 hb5
      by_cases hck : c' = z.length
      · have hyz : y.length = z.length := by omega
        have HC3 : Hid (Rd w7 (fun _ => True) 1 (some ⟨g, off, none⟩) 0 []) := Rd.nil
        have HD : Hid (y.drop z.length = []) := List.drop_of_length_le (by omega)
        have HE : Hid (x.length + 0 = L.length) := by show _ = _; rw [hLn.out]; omega
        have HL3 : Hid (L.map stv = x.map stv ++ []) := by show _ = _; rw [← HL2.out, HD.out]; simp
        subst hck
        clear HC HD hyz
        go_wp2_with (at_builtin; refine wpList_append_row _ rfl (.tmp 35) (.tmp 41) 31 rfl w3.heap.size 9 i0 _ 1 16 Try.underlying31 hi0 hz0 hz1 hz2 rfl (by omega) rfl hr7 rfl HC3.out (by simp) (by simp only [maxLen]; omega) (by omega) hs7 ?_; intro A8 c8 w8 hr8 hg8 hat8; rw [HE.out, ← HL3.out] at hr8; rw [HE.out])
        have hb8 : Below w3.heap.size w3 w8 := hb7'.grown hg8 hs7 (fun k e => (hr7.lt k e).1)
        have hbw8 := bthen hb3 hb8
        have hLl : L.length ≤ 1048576 := by have := hLn.out; omega
        have HR8 := Lib.hid hr8.rd
        clear hr8 hg8 hat8 hb8 hb7' hb3 hr7 hsy hsz
        refine (paste_any A8 c8 L _ w8 HR8.out hLl (by omega)).mono ?_
        rintro e w9 ⟨s1, rfl, hs1, hq9⟩
        have hsz1 : s1.size ≤ 192 := by have := congrArg List.length hs1.out; rw [tl_len] at this; omega
        go_wp2_with fail
        refine (refGood_any s1 (by omega) _).mono ?_
        rw [hs1.out]
        rintro e w10 ⟨rfl, hb10⟩
        replace hb10 := bthen hq9.below hb10
        cases hgo : goodB (pasteL L)
        · rw [hgo] at HM
          have HG := Lib.hid hgo
          clear hgo
          go_wp2_with fail
          go_ret
          exact ⟨_, rfl, HM.out.symm, bthen hbw8 hb10⟩
        · rw [hgo] at HM
          have HG := Lib.hid hgo
          clear hgo
          go_wp2_with fail
          refine (paste_any A8 c8 L _ w10 (HR8.out.below hb10) hLl (by omega)).mono ?_
          rintro e w11 ⟨s2, rfl, hs2, hq11⟩
          go_wp2_with fail
          go_ret
          exact ⟨_, rfl, hs2.out.trans HM.out.symm, bthen hbw8 (bthen hb10 hq11.below)⟩
      · have HC2 := HC.out
        rw [if_neg hck, Option.map_some, add_none, Nat.mul_one] at HC2
        have HC3 := Lib.hid HC2.rd
        rw [Nat.mul_one] at HLm
        have b3 : ¬ c' - z.length = 0 := by omega
        clear HC2 HC
        go_wp2_with (at_builtin; refine wpList_append_row _ rfl (.tmp 35) (.tmp 41) 31 rfl w3.heap.size 9 i0 _ 1 16 Try.underlying31 hi0 hz0 hz1 hz2 rfl (by omega) rfl hr7 rfl HC3.out (fun u hu => st_one _ u (List.mem_of_mem_drop hu)) (by simp only [maxLen]; omega) (by omega) hs7 ?_; intro A8 c8 w8 hr8 hg8 hat8; rw [← hLn.out, ← HLm.out] at hr8; rw [← hLn.out])
        have hb8 : Below w3.heap.size w3 w8 := hb7'.grown hg8 hs7 (fun k e => (hr7.lt k e).1)
        have hbw8 := bthen hb3 hb8
        have hLl : L.length ≤ 1048576 := by have := hLn.out; omega
        have HR8 := Lib.hid hr8.rd
        clear hr8 hg8 hat8 hb8 hb7' hb3 hr7 hsy hsz
        refine (paste_any A8 c8 L _ w8 HR8.out hLl (by omega)).mono ?_
        rintro e w9 ⟨s1, rfl, hs1, hq9⟩
        have hsz1 : s1.size ≤ 192 := by have := congrArg List.length hs1.out; rw [tl_len] at this; omega
        go_wp2_with fail
        refine (refGood_any s1 (by omega) _).mono ?_
        rw [hs1.out]
        rintro e w10 ⟨rfl, hb10⟩
        replace hb10 := bthen hq9.below hb10
        cases hgo : goodB (pasteL L)
        · rw [hgo] at HM
          have HG := Lib.hid hgo
          clear hgo
          go_wp2_with fail
          go_ret
          exact ⟨_, rfl, HM.out.symm, bthen hbw8 hb10⟩
        · rw [hgo] at HM
          have HG := Lib.hid hgo
          clear hgo
          go_wp2_with fail
          refine (paste_any A8 c8 L _ w10 (HR8.out.below hb10) hLl (by omega)).mono ?_
          rintro e w11 ⟨s2, rfl, hs2, hq11⟩
          go_wp2_with fail
          go_ret
          exact ⟨_, rfl, hs2.out.trans HM.out.symm, bthen hbw8 (bthen hb10 hq11.below)⟩
  · have hpf : p ≠ f := fun e => hor (.inl e)
    have hn := neq_no hpf
    have hut : underB (tl p) (tl f) = false := by
      have : preB (tl p) (tl f) = false := by cases h : preB (tl p) (tl f); rfl; exact (hor (.inr h)).elim
      unfold underB; rw [this]; simp
    have hne : (tl p == tl f) = false := by simp only [beq_eq_false_iff_ne, ne_eq]; exact fun e => hpf (tl_inj e)
    have HM : Hid (M = []) := by show _ = _; rw [hM]; unfold moveT; rw [hut, hne]; simp
    rw [hut] at HU
    clear gp gf gt hor hM hpf hut hne
    go_enter Try.func20, Try.ntmps20
    go_wp2_with fail
    refine (HP.out _).mono ?_
    rintro e w1 ⟨rfl, hb1⟩
    go_wp2_with fail
    refine (HF.out _).mono ?_
    rintro e w2 ⟨rfl, hb2⟩
    go_wp2_with fail
    refine (HT.out _).mono ?_
    rintro e w3 ⟨rfl, hb3⟩
    replace hb3 := bthen (bthen hb1 hb2) hb3
    go_wp2_with fail
    refine (HU.out _).mono ?_
    rintro e w5 ⟨rfl, hb5⟩
    replace hb5 := bthen hb3 hb5
    go_wp2_with fail
    go_ret
    exact ⟨_, rfl, HM.out.symm, hb5⟩
end Go.Proofs.Ytffimpjjdhnajaa
