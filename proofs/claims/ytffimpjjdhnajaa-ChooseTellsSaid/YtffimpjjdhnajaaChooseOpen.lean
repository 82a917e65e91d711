/- choose.Open, tenderref03.Same. -/
import Derived.Test.YtffimpjjdhnajaaChooseMore
namespace Go.Proofs.Ytffimpjjdhnajaa
open Go.RowKit Go.WideShapes Go.ChangeShapes Go.ChangeAt

def openL (l : List CV) : List ByteArray := (l.filter fun c => openB c.v).map CV.p
theorem openL_take {l : List CV} {i : Nat} {a : CV} (h : l[i]? = some a) : openL (l.take (i + 1)) = openL (l.take i) ++ if openB a.v = true then [a.p] else [] := by
  obtain ⟨hi, rfl⟩ := List.getElem?_eq_some_iff.1 h
  unfold openL
  rw [List.take_succ_eq_append_getElem hi, List.filter_append, List.map_append]
  congr 1
  by_cases h : openB l[i].v = true
  · rw [if_pos h, List.filter_cons, if_pos h]; rfl
  · rw [if_neg h, List.filter_cons, if_neg h]; rfl
theorem openL_len (l : List CV) : (openL l).length ≤ l.length := by
  unfold openL
  rw [List.length_map]
  exact List.length_filter_le _ _


set_option maxRecDepth 100000 in
set_option maxHeartbeats 2000000 in
theorem chooseOpen_any (A : Option Addr) (c : Nat) (l : List CV) (Z : Nat → Prop) (w : World) (h : Chs w Z A l) (hlen : l.length ≤ 1000000) :
    Calls Try.prog 53 #[.slice A l.length c] w fun e w' => ∃ (A' : Option Addr) (c' : Nat) (s : List ByteArray), e = .returned (.slice A' s.length c') ∧ Hid (s = openL l) ∧ Bas w' w.heap.size A' c' s ∧ Below w.heap.size w w' := by
  obtain ⟨j0, hj0, hy0, hy1, hy2⟩ := info_parts str_info
  have hbw : Below w.heap.size w w := Below.refl _ _
  go_enter Try.func53, Try.ntmps53
  go_wp2_with fail
  obtain ⟨w1, hw1⟩ : ∃ w1, w1 = w := ⟨_, rfl⟩
  rw [← hw1]
  have hbw : Below w.heap.size w w1 := by rw [hw1]; exact Below.refl _ _
  have HW1 := Lib.hid hw1
  clear hw1
  go_loopw [2, 7] (fun ov iv wr => ∃ (i : Nat) (A3 : Option Addr) (c3 : Nat) (s : List ByteArray), i ≤ l.length ∧ iv = .int .i64 (i : Int) ∧ ov = .slice A3 s.length c3 ∧ Hid (s = openL (l.take i)) ∧ Bas wr w1.heap.size A3 c3 s ∧ Below w1.heap.size w1 wr) (fun _ iv _ => l.length - (intOf iv).toNat)
  case atStart => exact ⟨0, none, 0, [], Nat.zero_le _, rfl, rfl, rfl, Row.none_ _ _ _ _, Below.refl _ _⟩
  case round =>
    obtain ⟨i, A3, c3, s, hi, rfl, rfl, hs, hst, hb5⟩ := hrel
    by_cases hlt : i < l.length
    · have hw5 : Below w.heap.size w wr := hbw.trans (hb5.mono hbw.size)
      have hsz := hw5.size
      obtain ⟨b, off, rfl, hz, hbb, at1⟩ := ch_at (h.rd.below hw5) hlt
      have HS := Lib.hid (openL_take (List.getElem?_eq_getElem hlt))
      have hsl : s.length ≤ 1000000 := by
        rw [hs.out]
        have h7 := openL_len (l.take i)
        rw [List.length_take] at h7
        omega
      generalize l[i] = xi at *
      have hst3 := Lib.hid (Row.alloc hst (.cells #[.string xi.p, .int .i64 xi.b, .bool xi.m, .bool xi.t, .int .i64 xi.k, .int .i64 xi.o, .int .i64 xi.s, .int .i64 xi.l, .int .i64 xi.v] 44))
      have hbn : Below w1.heap.size w1 (wr.alloc (.cells #[.string xi.p, .int .i64 xi.b, .bool xi.m, .bool xi.t, .int .i64 xi.k, .int .i64 xi.o, .int .i64 xi.s, .int .i64 xi.l, .int .i64 xi.v] 44)) := hb5.alloc hb5.size _
      have bc : Blk (wr.alloc (.cells #[.string xi.p, .int .i64 xi.b, .bool xi.m, .bool xi.t, .int .i64 xi.k, .int .i64 xi.o, .int .i64 xi.s, .int .i64 xi.l, .int .i64 xi.v] 44)) wr.heap.size 44 xi.cells.toArray := Blk.new wr _ _
      obtain ⟨a0, a1, a2, a3, a4, a5, a6, a7, a8⟩ := at1
      clear hst
      have ho : openB xi.v = (xi.v == 4 || xi.v == 5) := rfl
      have hst4 := Lib.hid (Row.alloc hst3.out (.cells #[.string xi.p] 9))
      have hbn2 := hbn.alloc hbn.size (.cells #[.string xi.p] 9)
      have HRD : Hid (Rd ((wr.alloc (.cells #[.string xi.p, .int .i64 xi.b, .bool xi.m, .bool xi.t, .int .i64 xi.k, .int .i64 xi.o, .int .i64 xi.s, .int .i64 xi.l, .int .i64 xi.v] 44)).alloc (.cells #[.string xi.p] 9)) (fun b => (wr.alloc (.cells #[.string xi.p, .int .i64 xi.b, .bool xi.m, .bool xi.t, .int .i64 xi.k, .int .i64 xi.o, .int .i64 xi.s, .int .i64 xi.l, .int .i64 xi.v] 44)).heap.size ≤ b) 1 (some ⟨(wr.alloc (.cells #[.string xi.p, .int .i64 xi.b, .bool xi.m, .bool xi.t, .int .i64 xi.k, .int .i64 xi.o, .int .i64 xi.s, .int .i64 xi.l, .int .i64 xi.v] 44)).heap.size, 0, none⟩) 1 [.string xi.p]) := Rd.lit rfl rfl rfl
      rw [World.size_alloc] at HRD
      have HB2 := Lib.hid hbn2
      have bc2 := Lib.hid (bc.alloc (.cells #[.string xi.p] 9))
      cases e4 : (xi.v == 4)
      · cases e5 : (xi.v == 5)
        · have HS2 : Hid (s = openL (l.take (i + 1))) := by show _ = _; rw [HS.out, ho, e4, e5, hs.out]; simp
          have HB := Lib.hid hbn
          clear HS hs hbn hbn2 HB2 HRD hst4 bc2
          go_wp2_with fail
          go_roundw
          case rel => exact ⟨i + 1, A3, c3, s, hlt, by go_num, by simp, HS2, hst3.out, HB.out⟩
          case measure => simp [intOf]; omega
        · have HS2 : Hid (s ++ [xi.p] = openL (l.take (i + 1))) := by show _ = _; rw [HS.out, ho, e4, e5, hs.out]; simp
          clear HS hs hbn hbn2 hst3 bc
          go_wp2_with (at_builtin; refine wpList_append_row _ rfl (.tmp 19) (.tmp 22) 31 rfl w1.heap.size 9 j0 _ 1 16 Try.underlying31 hj0 hy0 hy1 hy2 rfl (by omega) rfl hst4.out rfl HRD.out (by simp [Value.oneCell']) (by simp only [maxLen]; omega) (by omega) HB2.out.size ?_; intro A5 c5 w5 h7 h8 h9; have hb9 := HB2.out.grown h8 HB2.out.size (fun k e => (hst4.out.lt k e).1); have bc9 := bc2.out.grown h8 (fun e => Row.ne_blk hst4.out bc2.out (by decide) e); have hrow9 : Bas w5 w1.heap.size A5 c5 (s ++ [xi.p]) := (by unfold Bas; rw [List.length_append, List.map_append]; simpa using h7))
          go_roundw
          case rel => exact ⟨i + 1, A5, c5, s ++ [xi.p], hlt, by go_num, by simp, HS2, hrow9, hb9⟩
          case measure => simp [intOf]; omega
      · have HS2 : Hid (s ++ [xi.p] = openL (l.take (i + 1))) := by show _ = _; rw [HS.out, ho, e4, hs.out]; simp
        clear HS hs hbn hbn2 hst3 bc
        go_wp2_with (at_builtin; refine wpList_append_row _ rfl (.tmp 19) (.tmp 22) 31 rfl w1.heap.size 9 j0 _ 1 16 Try.underlying31 hj0 hy0 hy1 hy2 rfl (by omega) rfl hst4.out rfl HRD.out (by simp [Value.oneCell']) (by simp only [maxLen]; omega) (by omega) HB2.out.size ?_; intro A5 c5 w5 h7 h8 h9; have hb9 := HB2.out.grown h8 HB2.out.size (fun k e => (hst4.out.lt k e).1); have bc9 := bc2.out.grown h8 (fun e => Row.ne_blk hst4.out bc2.out (by decide) e); have hrow9 : Bas w5 w1.heap.size A5 c5 (s ++ [xi.p]) := (by unfold Bas; rw [List.length_append, List.map_append]; simpa using h7))
        go_roundw
        case rel => exact ⟨i + 1, A5, c5, s ++ [xi.p], hlt, by go_num, by simp, HS2, hrow9, hb9⟩
        case measure => simp [intOf]; omega
    · have e : i = l.length := by omega
      subst e
      rw [List.take_length] at hs
      go_wp2_with fail
      go_ret
      exact ⟨A3, c3, s, rfl, hs, Row.rebase hst (fun g hg => by have := (Row.lt hst g hg).1; have := hbw.size; omega), hbw.trans (hb5.mono hbw.size)⟩
end Go.Proofs.Ytffimpjjdhnajaa
