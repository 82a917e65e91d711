/- FenceCloses is true for every input: what any changes are closed to, and which of them became conflicts, is the document's. No condition beyond the row's own. -/
import Derived.Test.YtffimpjjdhnajaaFenceHeld
namespace Go.Proofs.Ytffimpjjdhnajaa
open Go.RowKit Go.WideShapes Go.ChangeShapes Go.ChangeAt

theorem sameCs_self (l : List CV) : sameCs l l = true := (sameCs_iff l l).2 rfl
theorem neq_self (s : ByteArray) : (!(s.toList == s.toList)) = false := by simp

set_option maxRecDepth 100000 in
set_option maxHeartbeats 2000000 in
theorem fenceCloses_any (A : Option Addr) (c : Nat) (l : List CV) (w : World) (h : Chs w (fun b => b < w.heap.size) A l) :
    Calls Try.prog 8 #[.slice A l.length c] w fun e w' => e = .returned (.bool true) ∧ Below w.heap.size w w' := by
  obtain ⟨j0, hj0, hy0, hy1, hy2⟩ := info_parts str_info
  cases hL : lightF l
  · have HL := Lib.hid (fun w' hb => by have := lightF_any A c l _ w' (h.below hb); rw [hL] at this; exact this : ∀ w', Below w.heap.size w w' → Calls Try.prog 35 #[.slice A l.length c] w' fun e w'' => e = .returned (.bool false) ∧ Below w'.heap.size w' w'')
    go_enter Try.func8, Try.ntmps8
    go_wp2_with fail
    refine (HL.out _ (Below.refl _ _)).mono ?_
    rintro e w1 ⟨rfl, hb⟩
    go_wp2_with fail
    refine (lives26_any _).mono ?_
    rintro e w2 ⟨rfl, hb2⟩
    go_wp2_with fail
    go_ret
    exact ⟨rfl, hb.trans (hb2.mono hb.size)⟩
  · have hlen := lightF_len hL
    have HL := Lib.hid (fun w' hb => by have := lightF_any A c l _ w' (h.below hb); rw [hL] at this; exact this : ∀ w', Below w.heap.size w w' → Calls Try.prog 35 #[.slice A l.length c] w' fun e w'' => e = .returned (.bool true) ∧ Below w'.heap.size w' w'')
    go_enter Try.func8, Try.ntmps8
    go_wp2_with fail
    refine (HL.out _ (Below.refl _ _)).mono ?_
    rintro e w1 ⟨rfl, hb⟩
    have hs1 := hb.size
    go_wp2_with fail
    refine (close_any A c l _ w1 (h.below hb) (by omega)).mono ?_
    rintro e w2 ⟨A2, c2, x, rfl, hx, hrx, hb2⟩
    have hbw2 := hb.trans (hb2.mono hs1)
    go_wp2_with fail
    refine (closeR_any A c l _ w2 (h.below hbw2) (by omega)).mono ?_
    rintro e w3 ⟨A3, c3, y, rfl, hy, hry, hb3⟩
    obtain rfl := (hy.unique hx).symm
    have hbw3 := hbw2.trans (hb3.mono hbw2.size)
    have HXL : Hid (x.length = l.length) := hx.1.le.1.symm
    have hxle : x.length ≤ 40 := by rw [HXL.out]; exact hlen
    have hxp : ∀ o ∈ x, o.p.size ≤ 140737488355328 := fun o ho => by
      obtain ⟨i, hi⟩ := List.mem_iff_getElem?.1 ho
      obtain ⟨q, hq, e⟩ := List.mem_map.1 (hx.1.path hi)
      rw [← e]
      exact h.p q hq
    have HS := Lib.hid (sameR_any A2 A3 c2 c3 x x _ _ w3 ⟨hrx.below hb3, hxp, by omega⟩ ⟨hry, hxp, by omega⟩)
    rw [sameCs_self] at HS
    have HX := Lib.hid hx
    clear hx hxp
    go_wp2_with fail
    refine HS.out.mono ?_
    rintro e w4 ⟨rfl, hb4⟩
    have hbw := hbw3.trans (hb4.mono hbw3.size)
    replace hrx := hry.below hb4
    clear HS hry hbw3 hb2 hb3 hb4 hbw2 HL hL hb
    go_wp2_with fail
    obtain ⟨w1, rfl⟩ : ∃ w1 : World, w1 = w4 := ⟨_, rfl⟩
    go_loopw [5, 24] (fun ov iv wr => ∃ (i : Nat) (A3 : Option Addr) (c3 : Nat) (s : List ByteArray), i ≤ x.length ∧ iv = .int .i64 (i : Int) ∧ ov = .slice A3 s.length c3 ∧ Hid (s = heldZ ((x.zip l).take i)) ∧ Bas wr w1.heap.size A3 c3 s ∧ Below w1.heap.size w1 wr) (fun _ iv _ => x.length - (intOf iv).toNat)
    case atStart => exact ⟨0, none, 0, [], Nat.zero_le _, rfl, rfl, rfl, Row.none_ _ _ _ _, Below.refl _ _⟩
    case round =>
      obtain ⟨i, A3, c3, s, hi, rfl, rfl, hs, hst, hb5⟩ := hrel
      by_cases hlt : i < x.length
      · have hw5 : Below w.heap.size w wr := hbw.trans (hb5.mono hbw.size)
        have hsz := hw5.size
        have hlt2 : i < l.length := by have := HXL.out; omega
        obtain ⟨b, off, rfl, hz, hbb, at1⟩ := ch_at (hrx.below hb5) hlt
        obtain ⟨b', off', rfl, hz', hbb', at2⟩ := ch_at (h.rd.below hw5) hlt2
        have HS := Lib.hid (heldZ_step (List.getElem?_eq_getElem hlt) (List.getElem?_eq_getElem hlt2))
        have hsl : s.length ≤ 1000000 := by
          rw [hs.out]
          have h7 := heldZ_len ((x.zip l).take i)
          rw [List.length_take] at h7
          omega
        generalize x[i] = xi at *
        generalize l[i] = li at *
        have at3 := at2.below hbb' ((Below.refl _ _).alloc (Nat.le_refl _) (.cells #[.string xi.p, .int .i64 xi.b, .bool xi.m, .bool xi.t, .int .i64 xi.k, .int .i64 xi.o, .int .i64 xi.s, .int .i64 xi.l, .int .i64 xi.v] 44))
        have hst3 := Lib.hid (Row.alloc hst (.cells #[.string xi.p, .int .i64 xi.b, .bool xi.m, .bool xi.t, .int .i64 xi.k, .int .i64 xi.o, .int .i64 xi.s, .int .i64 xi.l, .int .i64 xi.v] 44))
        have hbn : Below w1.heap.size w1 (wr.alloc (.cells #[.string xi.p, .int .i64 xi.b, .bool xi.m, .bool xi.t, .int .i64 xi.k, .int .i64 xi.o, .int .i64 xi.s, .int .i64 xi.l, .int .i64 xi.v] 44)) := hb5.alloc hb5.size _
        obtain ⟨a0, a1, a2, a3, a4, a5, a6, a7, a8⟩ := at1
        have c8 := at3.c8
        have cc8 := at2.c8
        clear at2 at3 hst
        cases e5 : (xi.v == 5)
        · have HS2 : Hid (s = heldZ ((x.zip l).take (i + 1))) := by show _ = _; rw [HS.out, e5, hs.out]; simp
          have HB := Lib.hid hbn
          clear HS hs hbn
          go_wp2_with fail
          go_roundw
          case rel => exact ⟨i + 1, A3, c3, s, hlt, by go_num, rfl, HS2, hst3.out, HB.out⟩
          case measure => simp [intOf]; omega
        · cases e6 : (li.v != 5)
          · have HS2 : Hid (s = heldZ ((x.zip l).take (i + 1))) := by show _ = _; rw [HS.out, e5, e6, hs.out]; simp
            have HB := Lib.hid hbn
            clear HS hs hbn
            go_wp2_with fail
            go_roundw
            case rel => exact ⟨i + 1, A3, c3, s, hlt, by go_num, rfl, HS2, hst3.out, HB.out⟩
            case measure => simp [intOf]; omega
          · have HS2 : Hid (s ++ [xi.p] = heldZ ((x.zip l).take (i + 1))) := by show _ = _; rw [HS.out, e5, e6, hs.out]; simp
            have hst4 := Lib.hid (Row.alloc hst3.out (.cells #[.string xi.p] 9))
            have hbn2 := hbn.alloc hbn.size (.cells #[.string xi.p] 9)
            have HRD : Hid (Rd ((wr.alloc (.cells #[.string xi.p, .int .i64 xi.b, .bool xi.m, .bool xi.t, .int .i64 xi.k, .int .i64 xi.o, .int .i64 xi.s, .int .i64 xi.l, .int .i64 xi.v] 44)).alloc (.cells #[.string xi.p] 9)) (fun b => (wr.alloc (.cells #[.string xi.p, .int .i64 xi.b, .bool xi.m, .bool xi.t, .int .i64 xi.k, .int .i64 xi.o, .int .i64 xi.s, .int .i64 xi.l, .int .i64 xi.v] 44)).heap.size ≤ b) 1 (some ⟨(wr.alloc (.cells #[.string xi.p, .int .i64 xi.b, .bool xi.m, .bool xi.t, .int .i64 xi.k, .int .i64 xi.o, .int .i64 xi.s, .int .i64 xi.l, .int .i64 xi.v] 44)).heap.size, 0, none⟩) 1 [.string xi.p]) := Rd.lit rfl rfl rfl
            rw [World.size_alloc] at HRD
            have HB := Lib.hid hbn2
            clear HS hs hbn hst3 hbn2
            go_wp2_with (at_builtin; refine wpList_append_row _ rfl (.tmp 40) (.tmp 43) 31 rfl w1.heap.size 9 j0 _ 1 16 Try.underlying31 hj0 hy0 hy1 hy2 rfl (by omega) rfl hst4.out rfl HRD.out (by simp [Value.oneCell']) (by simp only [maxLen]; omega) (by omega) HB.out.size ?_; intro A5 c5 w5 h7 h8 h9)
            have hb9 := HB.out.grown h8 (by have := HB.out.size; exact this) (fun k e => (hst4.out.lt k e).1)
            go_roundw
            case rel => exact ⟨i + 1, A5, c5, s ++ [xi.p], hlt, by go_num, by simp, HS2, by unfold Bas; rw [List.length_append, List.map_append]; simpa using h7, hb9⟩
            case measure => simp [intOf]; omega
      · have e : i = x.length := by omega
        subst e
        have e7 : (x.zip l).take x.length = x.zip l := List.take_of_length_le (by simp; omega)
        rw [e7] at hs
        clear e7 hlt
        have hw5 := hbw.trans (hb5.mono hbw.size)
        go_wp2_with fail
        refine (held_any A c l x _ wr (h.below hw5) (by omega) HX.out).mono ?_
        rintro e w6 ⟨A6, c6, s6, rfl, hs6, hst6, hb6⟩
        have e8 : s6 = s := by rw [hs6.out, hs.out]
        subst e8
        have hst7 := Row.below hst hb6
        have hw7 := hw5.trans (hb6.mono hw5.size)
        have hsl : s6.length ≤ 40 := by
          rw [hs6.out]
          have h7 := heldZ_len (x.zip l)
          rw [List.length_zip] at h7
          omega
        clear hs6 hs hst hb6 hb5 hrx hw5 HX
        go_wp2_with fail
        go_loopw [55] (fun iv wv => ∃ i : Nat, i ≤ s6.length ∧ iv = .int .i64 (i : Int) ∧ Below w6.heap.size w6 wv) (fun iv _ => s6.length - (intOf iv).toNat)
        case atStart => exact ⟨0, Nat.zero_le _, rfl, Below.refl _ _⟩
        case round =>
          obtain ⟨i, hi, rfl, hb8⟩ := hrel
          by_cases hlt : i < s6.length
          · have hg : (s6.map Value.string)[i]? = some (.string s6[i]) := by rw [List.getElem?_map, List.getElem?_eq_getElem hlt]; rfl
            obtain ⟨g, off, rfl, hgb, hgl⟩ := Row.addr hst6 (by omega)
            obtain ⟨g', off', rfl, hgb', hgl'⟩ := Row.addr hst7 (by omega)
            have k6 := Row.cell (Row.below hst6 hb8) hg
            have k7 := Row.cell (Row.below hst7 hb8) hg
            have hgl8 : g < wr.heap.size := Nat.lt_of_lt_of_le hgl hb8.size
            have hgl9 : g' < wr.heap.size := Nat.lt_of_lt_of_le hgl' hb8.size
            generalize s6[i] = t at *
            have kn := neq_self t
            go_wp2_with fail
            refine wp_region_b 9 (by kernel_rfl) (by kernel_rfl) ?_
            simp only [List.take_succ_cons, List.take_zero, List.drop_succ_cons, List.drop_zero]
            refine lb_move _ (by kernel_rfl) rfl ⟨_, (by ((try simp [go_sem]); (try rfl); done)), _, (by (simp only [Act.put, List.setIfInBounds_toArray, List.set_cons_zero, List.set_cons_succ]; rfl)), ?_⟩
            refine lb_move _ (by kernel_rfl) rfl ⟨_, (by ((try simp [go_sem]); (try rfl); done)), _, (by (simp only [Act.put, List.setIfInBounds_toArray, List.set_cons_zero, List.set_cons_succ]; rfl)), ?_⟩
            refine lb_val (by kernel_rfl) ⟨_, (by (intro w' hC; clear hC; (try go_simp); (try with_reducible rfl); done)), _, (by (simp only [Act.put, List.setIfInBounds_toArray, List.set_cons_zero, List.set_cons_succ]; rfl)), ?_⟩
            refine lb_val (by kernel_rfl) ⟨_, (by (intro w' hC; (have k6' := cellAt hC hgl8 k6); clear hC; (try go_simp); (try with_reducible rfl); done)), _, (by (simp only [Act.put, List.setIfInBounds_toArray, List.set_cons_zero, List.set_cons_succ]; rfl)), ?_⟩
            refine lb_move _ (by kernel_rfl) rfl ⟨_, (by ((try simp [go_sem]); (try rfl); done)), _, (by (simp only [Act.put, List.setIfInBounds_toArray, List.set_cons_zero, List.set_cons_succ]; rfl)), ?_⟩
            refine lb_move _ (by kernel_rfl) rfl ⟨_, (by ((try simp [go_sem]); (try rfl); done)), _, (by (simp only [Act.put, List.setIfInBounds_toArray, List.set_cons_zero, List.set_cons_succ]; rfl)), ?_⟩
            refine lb_val (by kernel_rfl) ⟨_, (by (intro w' hC; clear hC; (try go_simp); (try with_reducible rfl); done)), _, (by (simp only [Act.put, List.setIfInBounds_toArray, List.set_cons_zero, List.set_cons_succ]; rfl)), ?_⟩
            refine lb_val (by kernel_rfl) ⟨_, (by (intro w' hC; (have k7' := cellAt hC hgl9 k7); clear hC; (try go_simp); (try with_reducible rfl); done)), _, (by (simp only [Act.put, List.setIfInBounds_toArray, List.set_cons_zero, List.set_cons_succ]; rfl)), ?_⟩
            refine lb_val (by kernel_rfl) ⟨_, (by (intro w' hC; clear hC; (try go_simp); (try with_reducible rfl); done)), _, (by (simp only [Act.put, List.setIfInBounds_toArray, List.set_cons_zero, List.set_cons_succ]; rfl)), ?_⟩
            refine .nil ?_
            intro w9 hb9
            clear k6 k7 kn
            go_wp2_with fail
            go_roundw
            case rel => exact ⟨i + 1, hlt, by go_num, hb8.trans (hb9.mono hb8.size)⟩
            case measure => simp [intOf]; omega
          · have e : i = s6.length := by omega
            subst e
            go_wp2_with fail
            refine (lives26_any _).mono ?_
            rintro e w9 ⟨rfl, hb9⟩
            go_wp2_with fail
            go_ret
            exact ⟨rfl, hw7.trans ((hb8.trans (hb9.mono hb8.size)).mono hw7.size)⟩
end Go.Proofs.Ytffimpjjdhnajaa
