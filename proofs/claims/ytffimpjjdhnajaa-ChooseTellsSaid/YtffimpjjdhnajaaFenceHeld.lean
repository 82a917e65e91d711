/- fence.Held. -/
import Derived.Test.YtffimpjjdhnajaaFenceCloseR
import Derived.Test.YtffimpjjdhnajaaNameRef
namespace Go.Proofs.Ytffimpjjdhnajaa
open Go.RowKit Go.WideShapes Go.ChangeShapes Go.ChangeAt

/-- texts in a row of their own -/
def Bas (w : World) (base : Nat) (A : Option Addr) (c : Nat) (l : List ByteArray) : Prop := Row w base 9 1 A l.length c (l.map Value.string)
def heldZ (z : List (CV × CV)) : List ByteArray := (z.filter fun p => p.1.v == 5 && p.2.v != 5).map fun p => p.1.p
theorem heldZ_snoc (z : List (CV × CV)) (a b : CV) : heldZ (z ++ [(a, b)]) = heldZ z ++ if (a.v == 5 && b.v != 5) = true then [a.p] else [] := by
  unfold heldZ
  rw [List.filter_append, List.map_append]
  congr 1
  by_cases h : (a.v == 5 && b.v != 5) = true
  · rw [if_pos h, List.filter_cons, if_pos h]; rfl
  · rw [if_neg h, List.filter_cons, if_neg h]; rfl
theorem heldZ_step {x l : List CV} {i : Nat} {a b : CV} (ha : x[i]? = some a) (hb : l[i]? = some b) : heldZ ((x.zip l).take (i + 1)) = heldZ ((x.zip l).take i) ++ if (a.v == 5 && b.v != 5) = true then [a.p] else [] := by
  obtain ⟨h1, rfl⟩ := List.getElem?_eq_some_iff.1 ha
  obtain ⟨h2, rfl⟩ := List.getElem?_eq_some_iff.1 hb
  rw [List.take_succ_eq_append_getElem (by simp; omega), List.getElem_zip, heldZ_snoc]
theorem heldZ_len (z : List (CV × CV)) : (heldZ z).length ≤ z.length := by
  unfold heldZ
  rw [List.length_map]
  exact List.length_filter_le _ _

theorem Below.grown {W a b : World} {row : Option Nat} (h : Below W.heap.size W a) (k : a.grownBy b row) (hW : W.heap.size ≤ a.heap.size) (hr : ∀ g, row = some g → W.heap.size ≤ g) : Below W.heap.size W b := by
  have hf : Fr (fun g => W.heap.size ≤ g) a b := Fr.of_grown k (fun g _ e => hr g e)
  exact h.trans (hf.below hW (fun g hg e => by omega))

set_option maxRecDepth 100000 in
set_option maxHeartbeats 2000000 in
theorem held_any (A : Option Addr) (c : Nat) (l x : List CV) (Z : Nat → Prop) (w : World) (h : Chs w Z A l) (hlen : l.length ≤ 1000000) (hx : Closes l x) :
    Calls Try.prog 40 #[.slice A l.length c] w fun e w' => ∃ (A' : Option Addr) (c' : Nat) (s : List ByteArray), e = .returned (.slice A' s.length c') ∧ Hid (s = heldZ (x.zip l)) ∧ Bas w' w.heap.size A' c' s ∧ Below w.heap.size w w' := by
  obtain ⟨j0, hj0, hy0, hy1, hy2⟩ := info_parts str_info
  go_enter Try.func40, Try.ntmps40
  go_wp2_with fail
  refine (close_any A c l Z w h hlen).mono ?_
  rintro e w1 ⟨A1, c1, x', rfl, hx', hrx, hbw⟩
  obtain rfl := (hx'.unique hx).symm
  have HXL : Hid (x.length = l.length) := hx.1.le.1.symm
  have hxle : x.length ≤ 1000000 := by rw [HXL.out]; exact hlen
  have HX := Lib.hid hx
  clear hx hx'
  go_wp2_with fail
  go_loopw [2, 8] (fun ov iv wr => ∃ (i : Nat) (A3 : Option Addr) (c3 : Nat) (s : List ByteArray), i ≤ x.length ∧ iv = .int .i64 (i : Int) ∧ ov = .slice A3 s.length c3 ∧ Hid (s = heldZ ((x.zip l).take i)) ∧ Bas wr w1.heap.size A3 c3 s ∧ Below w1.heap.size w1 wr) (fun _ iv _ => x.length - (intOf iv).toNat)
  case atStart => exact ⟨0, none, 0, [], Nat.zero_le _, rfl, rfl, rfl, Row.none_ _ _ _ _, Below.refl _ _⟩
  case round =>
    obtain ⟨i, A3, c3, s, hi, rfl, rfl, hs, hst, hb5⟩ := hrel
    by_cases hlt : i < x.length
    · have hw5 : Below w.heap.size w wr := hbw.trans (hb5.mono hbw.size)
      have hsz := hw5.size
      have hlt2 : i < l.length := by have := HXL.out; omega
      obtain ⟨b, off, rfl, hz, hbb, at1⟩ := ch_at (hrx.below hb5) hlt
      obtain ⟨b', off', rfl, hz', hbb', at2⟩ := ch_at (h.rd.below hw5) hlt2
      have HS := Lib.hid (heldZ_step (List.getElem?_eq_getElem hlt) (List.getElem?_eq_getElem hlt2))
      have hsl : s.length ≤ 1000000 := by
        rw [hs.out]
        have h7 := heldZ_len ((x.zip l).take i)
        rw [List.length_take] at h7
        omega
      generalize x[i] = xi at *
      generalize l[i] = li at *
      have at3 := at2.below hbb' ((Below.refl _ _).alloc (Nat.le_refl _) (.cells #[.string xi.p, .int .i64 xi.b, .bool xi.m, .bool xi.t, .int .i64 xi.k, .int .i64 xi.o, .int .i64 xi.s, .int .i64 xi.l, .int .i64 xi.v] 44))
      have hst3 := Lib.hid (Row.alloc hst (.cells #[.string xi.p, .int .i64 xi.b, .bool xi.m, .bool xi.t, .int .i64 xi.k, .int .i64 xi.o, .int .i64 xi.s, .int .i64 xi.l, .int .i64 xi.v] 44))
      have hbn : Below w1.heap.size w1 (wr.alloc (.cells #[.string xi.p, .int .i64 xi.b, .bool xi.m, .bool xi.t, .int .i64 xi.k, .int .i64 xi.o, .int .i64 xi.s, .int .i64 xi.l, .int .i64 xi.v] 44)) := hb5.alloc hb5.size _
      obtain ⟨a0, a1, a2, a3, a4, a5, a6, a7, a8⟩ := at1
      have c8 := at3.c8
      have cc8 := at2.c8
      clear at2 at3 hst
      cases e5 : (xi.v == 5)
      · have HS2 : Hid (s = heldZ ((x.zip l).take (i + 1))) := by show _ = _; rw [HS.out, e5, hs.out]; simp
        have HB := Lib.hid hbn
        clear HS hs hbn
        go_wp2_with fail
        go_roundw
        case rel => exact ⟨i + 1, A3, c3, s, hlt, by go_num, rfl, HS2, hst3.out, HB.out⟩
        case measure => simp [intOf]; omega
      · cases e6 : (li.v != 5)
        · have HS2 : Hid (s = heldZ ((x.zip l).take (i + 1))) := by show _ = _; rw [HS.out, e5, e6, hs.out]; simp
          have HB := Lib.hid hbn
          clear HS hs hbn
          go_wp2_with fail
          go_roundw
          case rel => exact ⟨i + 1, A3, c3, s, hlt, by go_num, rfl, HS2, hst3.out, HB.out⟩
          case measure => simp [intOf]; omega
        · have HS2 : Hid (s ++ [xi.p] = heldZ ((x.zip l).take (i + 1))) := by show _ = _; rw [HS.out, e5, e6, hs.out]; simp
          have hst4 := Lib.hid (Row.alloc hst3.out (.cells #[.string xi.p] 9))
          have hbn2 := hbn.alloc hbn.size (.cells #[.string xi.p] 9)
          have HRD : Hid (Rd ((wr.alloc (.cells #[.string xi.p, .int .i64 xi.b, .bool xi.m, .bool xi.t, .int .i64 xi.k, .int .i64 xi.o, .int .i64 xi.s, .int .i64 xi.l, .int .i64 xi.v] 44)).alloc (.cells #[.string xi.p] 9)) (fun b => (wr.alloc (.cells #[.string xi.p, .int .i64 xi.b, .bool xi.m, .bool xi.t, .int .i64 xi.k, .int .i64 xi.o, .int .i64 xi.s, .int .i64 xi.l, .int .i64 xi.v] 44)).heap.size ≤ b) 1 (some ⟨(wr.alloc (.cells #[.string xi.p, .int .i64 xi.b, .bool xi.m, .bool xi.t, .int .i64 xi.k, .int .i64 xi.o, .int .i64 xi.s, .int .i64 xi.l, .int .i64 xi.v] 44)).heap.size, 0, none⟩) 1 [.string xi.p]) := Rd.lit rfl rfl rfl
          rw [World.size_alloc] at HRD
          have HB := Lib.hid hbn2
          clear HS hs hbn hst3 hbn2
          go_wp2_with (at_builtin; refine wpList_append_row _ rfl (.tmp 24) (.tmp 27) 31 rfl w1.heap.size 9 j0 _ 1 16 Try.underlying31 hj0 hy0 hy1 hy2 rfl (by omega) rfl hst4.out rfl HRD.out (by simp [Value.oneCell']) (by simp only [maxLen]; omega) (by omega) HB.out.size ?_; intro A5 c5 w5 h7 h8 h9)
          have hb9 := HB.out.grown h8 (by have := HB.out.size; exact this) (fun k e => (hst4.out.lt k e).1)
          go_roundw
          case rel => exact ⟨i + 1, A5, c5, s ++ [xi.p], hlt, by go_num, by simp, HS2, by unfold Bas; rw [List.length_append, List.map_append]; simpa using h7, hb9⟩
          case measure => simp [intOf]; omega
    · have e : i = x.length := by omega
      subst e
      have e7 : (x.zip l).take x.length = x.zip l := List.take_of_length_le (by simp; omega)
      rw [e7] at hs
      clear e7
      go_wp2_with fail
      go_ret
      exact ⟨A3, c3, s, rfl, hs, Row.rebase hst (fun g hg => by have := (Row.lt hst g hg).1; have := hbw.size; omega), hbw.trans (hb5.mono hbw.size)⟩
end Go.Proofs.Ytffimpjjdhnajaa
