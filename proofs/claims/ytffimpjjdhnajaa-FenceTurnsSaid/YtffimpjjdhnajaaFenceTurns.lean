/- FenceTurns is true for every input: in whichever order changes stand, each becomes the same. No condition beyond the row's own. -/
import Derived.Test.YtffimpjjdhnajaaFenceLight
namespace Go.Proofs.Ytffimpjjdhnajaa
open Go.RowKit Go.WideShapes Go.ChangeShapes Go.ChangeAt

theorem rev_take {l : List CV} {j : Nat} (h : j < l.length) : l.reverse.take (j + 1) = l.reverse.take j ++ [l[l.length - 1 - j]] := by
  rw [List.take_succ_eq_append_getElem (by simpa using h), List.getElem_reverse]

set_option maxRecDepth 100000 in
set_option maxHeartbeats 2000000 in
theorem fenceTurns_any (A : Option Addr) (c : Nat) (l : List CV) (w : World) (h : Chs w (fun b => b < w.heap.size) A l) :
    Calls Try.prog 7 #[.slice A l.length c] w fun e w' => e = .returned (.bool true) ∧ Below w.heap.size w w' := by
  obtain ⟨i0, hi0, hz0, hz1, hz2⟩ := info_parts ch_info
  cases hL : lightF l
  · have HL := Lib.hid (fun w' hb => by have := lightF_any A c l _ w' (h.below hb); rw [hL] at this; exact this : ∀ w', Below w.heap.size w w' → Calls Try.prog 35 #[.slice A l.length c] w' fun e w'' => e = .returned (.bool false) ∧ Below w'.heap.size w' w'')
    go_enter Try.func7, Try.ntmps7
    go_wp2_with fail
    refine (HL.out _ (Below.refl _ _)).mono ?_
    rintro e w1 ⟨rfl, hb⟩
    go_wp2_with fail
    refine (lives26_any _).mono ?_
    rintro e w2 ⟨rfl, hb2⟩
    go_wp2_with fail
    go_ret
    exact ⟨rfl, hb.trans (hb2.mono hb.size)⟩
  · have hlen := lightF_len hL
    have HL := Lib.hid (fun w' hb => by have := lightF_any A c l _ w' (h.below hb); rw [hL] at this; exact this : ∀ w', Below w.heap.size w w' → Calls Try.prog 35 #[.slice A l.length c] w' fun e w'' => e = .returned (.bool true) ∧ Below w'.heap.size w' w'')
    go_enter Try.func7, Try.ntmps7
    go_wp2_with fail
    refine (HL.out _ (Below.refl _ _)).mono ?_
    rintro e w1 ⟨rfl, hb⟩
    have hs1 := hb.size
    go_wp2_with fail
    go_loopw [3, 4] (fun sv iv wr => ∃ (j : Nat) (A3 : Option Addr) (c3 : Nat), j ≤ l.length ∧ iv = .int .i64 ((l.length : Int) - 1 - (j : Int)) ∧ sv = .slice A3 j c3 ∧ Row wr w.heap.size 44 9 A3 j c3 ((l.reverse.take j).flatMap CV.cells) ∧ Below w.heap.size w wr) (fun _ iv _ => (intOf iv + 1).toNat)
    case atStart => exact ⟨0, none, 0, Nat.zero_le _, by go_num, rfl, Row.none_ _ _ _ _, hb⟩
    case round =>
      obtain ⟨j, A3, c3, hj, rfl, rfl, hrow, hbw⟩ := hrel
      by_cases hlt : j < l.length
      · have hsz := hbw.size
        obtain ⟨b, off, rfl, hz, hbb, at1⟩ := ch_at (i := l.length - 1 - j) (h.rd.below hbw) (by omega)
        have HR := Lib.hid (rev_take hlt)
        generalize l[l.length - 1 - j] = x at *
        have ei : ((l.length : Int) - 1 - (j : Int)) = ((l.length - 1 - j : Nat) : Int) := by omega
        have em : ((l.length : Int) - 1 - (j : Int)) - 1 = ((l.length : Int) - 1 - ((j + 1 : Nat) : Int)) := by omega
        have EM := Lib.hid em
        clear em
        obtain ⟨a0, a1, a2, a3, a4, a5, a6, a7, a8⟩ := at1
        rw [ei] at EM ⊢
        clear ei
        have hi1 : l.length - 1 - j < l.length := by omega
        generalize hi : l.length - 1 - j = i at *
        clear hi
        have hr1 := Lib.hid (hrow.alloc (.cells #[.string x.p, .int .i64 x.b, .bool x.m, .bool x.t, .int .i64 x.k, .int .i64 x.o, .int .i64 x.s, .int .i64 x.l, .int .i64 x.v] 44))
        have hd1 : Hid (Rd (wr.alloc (.cells #[.string x.p, .int .i64 x.b, .bool x.m, .bool x.t, .int .i64 x.k, .int .i64 x.o, .int .i64 x.s, .int .i64 x.l, .int .i64 x.v] 44)) (fun b => wr.heap.size ≤ b) 9 (some ⟨wr.heap.size, 0, none⟩) 1 x.cells) := Rd.lit rfl rfl rfl
        have hbn : Below w.heap.size w (wr.alloc (.cells #[.string x.p, .int .i64 x.b, .bool x.m, .bool x.t, .int .i64 x.k, .int .i64 x.o, .int .i64 x.s, .int .i64 x.l, .int .i64 x.v] 44)) := hbw.alloc hsz _
        have H1 := Lib.hid (fun u (hu : u ∈ x.cells) => ch_one [x] u (by simpa using hu))
        clear hrow
        go_wp2_with (at_builtin; refine wpList_append_row _ rfl (.tmp 19) (.tmp 24) 41 rfl w.heap.size 44 i0 _ 9 72 Try.underlying41 hi0 hz0 hz1 hz2 rfl (by omega) rfl hr1.out rfl hd1.out H1.out (by simp only [maxLen]; omega) (by omega) (by simp; omega) ?_; intro A4 c4 w4 h4 h5 h6; clear a0 a1 a2 a3 a4 a5 a6 a7 a8)
        have hb4 : Below w.heap.size w w4 := by
          have hf : Fr (fun k => w.heap.size ≤ k) (wr.alloc (.cells #[.string x.p, .int .i64 x.b, .bool x.m, .bool x.t, .int .i64 x.k, .int .i64 x.o, .int .i64 x.s, .int .i64 x.l, .int .i64 x.v] 44)) w4 := Fr.of_grown h5 (fun k hk e => (hr1.out.lt k e).1)
          exact hbn.trans (hf.below (by simp; omega) (fun k hk e => by omega))
        go_roundw
        case rel => exact ⟨j + 1, A4, c4, hlt, by rw [EM.out], rfl, by rw [HR.out, List.flatMap_append]; simpa using h4, hb4⟩
        case measure => simp [intOf]; try omega
      · have e : j = l.length := by omega
        subst e
        have ei : ((l.length : Int) - 1 - (l.length : Int)) = -1 := by omega
        rw [ei]
        rw [List.take_of_length_le (by simp)] at hrow
        clear ei hlt
        have hsw := hbw.size
        have hB : Rd wr (fun b => w.heap.size ≤ b) 9 A3 l.reverse.length (l.reverse.flatMap CV.cells) := by
          rw [List.length_reverse]
          exact hrow.rd.mono (fun b _ hz => (hrow.lt b hz).1)
        have HB : Hid (∀ w', Below wr.heap.size wr w' → Chs w' (fun b => w.heap.size ≤ b) A3 l.reverse) := fun w' hb' =>
          ⟨hB.below hb', fun o ho => h.p o (List.mem_reverse.1 ho), by rw [List.length_reverse]; exact h.len⟩
        clear hB hrow
        go_wp2_with fail
        refine (close_any A c l _ wr (h.below hbw) (by omega)).mono ?_
        rintro e w3 ⟨A5, c5, x, rfl, hx, hrx, hb3⟩
        have hs3 := hb3.size
        have hc2 := close_any A3 c3 l.reverse _ w3 (HB.out _ hb3) (by rw [List.length_reverse]; omega)
        rw [List.length_reverse] at hc2
        have HC2 := Lib.hid hc2
        clear hc2
        go_wp2_with fail
        refine HC2.out.mono ?_
        rintro e w4 ⟨A6, c6, y, rfl, hy, hry, hb4⟩
        obtain rfl := hy.unique hx.reverse
        have hlx : x.length = l.length := (hx.1.le.1).symm
        have hrx4 := hrx.below hb4
        have hw4 : Below w.heap.size w w4 := (hbw.trans (hb3.mono hsw)).trans (hb4.mono (by omega))
        rw [List.length_reverse] at hry
        have e1 : (x.reverse).length = x.length := List.length_reverse
        rw [e1]
        clear e1 hrx HC2 HB hb3 hb4 hbw hb hx hy hL HL hs1 hs3 hsw
        have hxl : x.length ≤ 40 := by omega
        clear hlx hlen
        go_wp2_with fail
        go_loopw [37] (fun iv wv => ∃ i : Nat, i ≤ x.length ∧ iv = .int .i64 (i : Int) ∧ Below w4.heap.size w4 wv) (fun iv _ => x.length - (intOf iv).toNat)
        case atStart => exact ⟨0, Nat.zero_le _, rfl, Below.refl _ _⟩
        case round =>
          obtain ⟨i, hi, rfl, hb5⟩ := hrel
          by_cases hlt : i < x.length
          · obtain ⟨b, off, rfl, hz, hbb, at1⟩ := ch_at (hrx4.below hb5) hlt
            have hry5 := hry.below hb5
            rw [show x.length = x.reverse.length by simp] at hry5
            obtain ⟨b', off', rfl, hz', hbb', at2⟩ := ch_at (i := x.length - 1 - i) hry5 (by simp; omega)
            have e2 : x.reverse[x.length - 1 - i]'(by simp; omega) = x[i] := by
              rw [List.getElem_reverse]
              congr 1
              omega
            rw [e2] at at2
            clear e2 hry5
            generalize x[i] = o at *
            have kn : ∀ w, (binOp .neq 44 o.val o.val).run Try.prog w = .ok (.bool false) w := fun w => by
              rw [neq_chg, (sameC_iff o o).2 rfl]
              rfl
            have k1 : IntKind.i64.wrap ((x.length : Int) - 1) = (x.length : Int) - 1 := IntWalk.i64_in _ (by omega)
            have k2 : IntKind.i64.wrap ((x.length : Int) - 1 - (i : Int)) = ((x.length - 1 - i : Nat) : Int) := by rw [IntWalk.i64_in _ (by omega)]; omega
            have hi2 : x.length - 1 - i < x.length := by omega
            generalize x.length - 1 - i = i2 at *
            go_wp2_with fail
            refine wp_region_b 13 (by kernel_rfl) (by kernel_rfl) ?_
            simp only [List.take_succ_cons, List.take_zero, List.drop_succ_cons, List.drop_zero]
            refine lb_move _ (by kernel_rfl) rfl ⟨_, (by ((try simp [go_sem]); (try rfl); done)), _, (by (simp only [Act.put, List.setIfInBounds_toArray, List.set_cons_zero, List.set_cons_succ]; rfl)), ?_⟩
            refine lb_move _ (by kernel_rfl) rfl ⟨_, (by ((try simp [go_sem]); (try rfl); done)), _, (by (simp only [Act.put, List.setIfInBounds_toArray, List.set_cons_zero, List.set_cons_succ]; rfl)), ?_⟩
            refine lb_val (by kernel_rfl) ⟨_, (by (intro w' hC; clear hC; (try go_simp); (try with_reducible rfl); done)), _, (by (simp only [Act.put, List.setIfInBounds_toArray, List.set_cons_zero, List.set_cons_succ]; rfl)), ?_⟩
            refine lb_val (by kernel_rfl) ⟨_, (by (intro w' hC; (obtain ⟨a0, a1, a2, a3, a4, a5, a6, a7, a8⟩ := at1.below hbb hC); clear hC; (try go_simp); (try with_reducible rfl); done)), _, (by (simp only [Act.put, List.setIfInBounds_toArray, List.set_cons_zero, List.set_cons_succ]; rfl)), ?_⟩
            refine lb_move _ (by kernel_rfl) rfl ⟨_, (by ((try simp [go_sem]); (try rfl); done)), _, (by (simp only [Act.put, List.setIfInBounds_toArray, List.set_cons_zero, List.set_cons_succ]; rfl)), ?_⟩
            refine lb_move _ (by kernel_rfl) rfl ⟨_, (by ((try simp [go_sem]); (try rfl); done)), _, (by (simp only [Act.put, List.setIfInBounds_toArray, List.set_cons_zero, List.set_cons_succ]; rfl)), ?_⟩
            refine lb_val (by kernel_rfl) ⟨_, (by (intro w' hC; clear hC; (try go_simp); (try with_reducible rfl); done)), _, (by (simp only [Act.put, List.setIfInBounds_toArray, List.set_cons_zero, List.set_cons_succ]; rfl)), ?_⟩
            refine lb_val (by kernel_rfl) ⟨_, (by (intro w' hC; clear hC; (try go_simp); (try with_reducible rfl); done)), _, (by (simp only [Act.put, List.setIfInBounds_toArray, List.set_cons_zero, List.set_cons_succ]; rfl)), ?_⟩
            refine lb_move _ (by kernel_rfl) rfl ⟨_, (by ((try simp [go_sem]); (try rfl); done)), _, (by (simp only [Act.put, List.setIfInBounds_toArray, List.set_cons_zero, List.set_cons_succ]; rfl)), ?_⟩
            refine lb_val (by kernel_rfl) ⟨_, (by (intro w' hC; clear hC; (try go_simp); (try with_reducible rfl); done)), _, (by (simp only [Act.put, List.setIfInBounds_toArray, List.set_cons_zero, List.set_cons_succ]; rfl)), ?_⟩
            refine lb_val (by kernel_rfl) ⟨_, (by (intro w' hC; clear hC; (try go_simp); (try with_reducible rfl); done)), _, (by (simp only [Act.put, List.setIfInBounds_toArray, List.set_cons_zero, List.set_cons_succ]; rfl)), ?_⟩
            refine lb_val (by kernel_rfl) ⟨_, (by (intro w' hC; (obtain ⟨c0, c1, c2, c3, c4, c5, c6, c7, c8⟩ := at2.below hbb' hC); clear hC; (try go_simp); (try with_reducible rfl); done)), _, (by (simp only [Act.put, List.setIfInBounds_toArray, List.set_cons_zero, List.set_cons_succ]; rfl)), ?_⟩
            refine lb_val (by kernel_rfl) ⟨_, (by (intro w' hC; clear hC; (try go_simp); (try with_reducible rfl); done)), _, (by (simp only [Act.put, List.setIfInBounds_toArray, List.set_cons_zero, List.set_cons_succ]; rfl)), ?_⟩
            refine .nil ?_
            clear k1 k2
            intro w6 hb6
            go_wp2_with fail
            go_roundw
            case rel => exact ⟨i + 1, hlt, by go_num, hb5.trans (hb6.mono hb5.size)⟩
            case measure => simp [intOf]; omega
          · have e : i = x.length := by omega
            subst e
            go_wp2_with fail
            refine (lives26_any _).mono ?_
            rintro e w6 ⟨rfl, hb6⟩
            go_wp2_with fail
            go_ret
            exact ⟨rfl, hw4.trans ((hb5.trans (hb6.mono hb5.size)).mono hw4.size)⟩
end Go.Proofs.Ytffimpjjdhnajaa
