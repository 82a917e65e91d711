/- fence.Clash, Sound. -/
import Derived.Test.YtffimpjjdhnajaaFenceClash
import Derived.Test.YtffimpjjdhnajaaFenceRow
namespace Go.Proofs.Ytffimpjjdhnajaa
open Go.RowKit Go.WideShapes Go.ChangeShapes Go.ChangeAt

/-- is there a clash of two? -/
def clB (p q : CV) : Bool := upB p q || lowB p q

set_option maxRecDepth 100000 in
set_option maxHeartbeats 1000000 in
theorem fclash_any (p q : CV) (hp : p.p.size ≤ 9223372036854775807) (hq : q.p.size ≤ 9223372036854775807) (w : World) :
    Calls Try.prog 41 #[p.val, q.val] w fun e w' => e = .returned (.bool (clB p q)) ∧ Below w.heap.size w w' := by
  have hl : Below w.heap.size w ((w.alloc (.cells #[.string p.p, .int .i64 p.b, .bool p.m, .bool p.t, .int .i64 p.k, .int .i64 p.o, .int .i64 p.s, .int .i64 p.l, .int .i64 p.v] 44)).alloc (.cells #[.string q.p, .int .i64 q.b, .bool q.m, .bool q.t, .int .i64 q.k, .int .i64 q.o, .int .i64 q.s, .int .i64 q.l, .int .i64 q.v] 44)) := (by repeat (first | exact Below.refl _ _ | refine Below.alloc ?_ (by simp) _ | refine Below.setCell ?_ (by simp) _ | refine Below.drew ?_))
  have bP : Blk ((w.alloc (.cells #[.string p.p, .int .i64 p.b, .bool p.m, .bool p.t, .int .i64 p.k, .int .i64 p.o, .int .i64 p.s, .int .i64 p.l, .int .i64 p.v] 44)).alloc (.cells #[.string q.p, .int .i64 q.b, .bool q.m, .bool q.t, .int .i64 q.k, .int .i64 q.o, .int .i64 q.s, .int .i64 q.l, .int .i64 q.v] 44)) w.heap.size 44 p.cells.toArray := (Blk.new w 44 #[.string p.p, .int .i64 p.b, .bool p.m, .bool p.t, .int .i64 p.k, .int .i64 p.o, .int .i64 p.s, .int .i64 p.l, .int .i64 p.v]).alloc _
  have bQ : Blk ((w.alloc (.cells #[.string p.p, .int .i64 p.b, .bool p.m, .bool p.t, .int .i64 p.k, .int .i64 p.o, .int .i64 p.s, .int .i64 p.l, .int .i64 p.v] 44)).alloc (.cells #[.string q.p, .int .i64 q.b, .bool q.m, .bool q.t, .int .i64 q.k, .int .i64 q.o, .int .i64 q.s, .int .i64 q.l, .int .i64 q.v] 44)) (w.heap.size + 1) 44 q.cells.toArray := by
    have h := Blk.new (w.alloc (.cells #[.string p.p, .int .i64 p.b, .bool p.m, .bool p.t, .int .i64 p.k, .int .i64 p.o, .int .i64 p.s, .int .i64 p.l, .int .i64 p.v] 44)) 44 #[.string q.p, .int .i64 q.b, .bool q.m, .bool q.t, .int .i64 q.k, .int .i64 q.o, .int .i64 q.s, .int .i64 q.l, .int .i64 q.v]
    rw [World.size_alloc] at h
    exact h
  have HC := Lib.hid (fun w => clash_any p q hp hq w)
  have hR : clB p q = (upB p q || lowB p q) := rfl
  generalize clB p q = R at *
  generalize upB p q = x at *
  generalize lowB p q = y at *
  subst hR
  cases x
  all_goals
    go_enter Try.func41, Try.ntmps41
    go_wp2_with fail
    generalize (w.alloc (.cells #[.string p.p, .int .i64 p.b, .bool p.m, .bool p.t, .int .i64 p.k, .int .i64 p.o, .int .i64 p.s, .int .i64 p.l, .int .i64 p.v] 44)).alloc (.cells #[.string q.p, .int .i64 q.b, .bool q.m, .bool q.t, .int .i64 q.k, .int .i64 q.o, .int .i64 q.s, .int .i64 q.l, .int .i64 q.v] 44) = V at *
    obtain ⟨a0, a1, a2, a3, a4, a5, a6, a7, a8⟩ := cells9 bP
    obtain ⟨c0, c1, c2, c3, c4, c5, c6, c7, c8⟩ := cells9 bQ
    go_wp2_with fail
    refine (HC.out _).mono ?_
    rintro e V1 ⟨rfl, hb⟩
    replace hl := hl.trans (hb.mono hl.size)
    have hs1 := hl.size
    clear hb HC a0 a1 a2 a3 a4 a5 a6 a7 a8 c0 c1 c2 c3 c4 c5 c6 c7 c8 bP bQ
    go_wp2_with fail
    go_ret
    exact ⟨ret_b (by simp), hl.alloc (by omega) _⟩


/-- is none in a clash with any? -/
def soundB (l : List CV) : Bool := l.all fun p => l.all fun q => !(clB p q)
theorem soundB_iff (l : List CV) : soundB l = true ↔ ∀ (i k : Nat) (a b : CV), l[i]? = some a → l[k]? = some b → clB a b = false := by
  unfold soundB
  simp only [List.all_eq_true, Bool.not_eq_true']
  constructor
  · intro h i k a b ha hb
    exact h a (List.mem_of_getElem? ha) b (List.mem_of_getElem? hb)
  · intro h a ha b hb
    obtain ⟨i, hi⟩ := List.mem_iff_getElem?.1 ha
    obtain ⟨k, hk⟩ := List.mem_iff_getElem?.1 hb
    exact h i k a b hi hk
theorem soundB_no {l : List CV} {i k : Nat} {a b : CV} (ha : l[i]? = some a) (hb : l[k]? = some b) (h : clB a b = true) : soundB l = false := by
  cases hs : soundB l with
  | false => rfl
  | true => rw [(soundB_iff l).1 hs i k a b ha hb] at h; cases h
theorem closed_sound (l : List CV) : soundB l = true ↔ Closed l := by
  rw [soundB_iff]
  unfold clB
  simp only [Bool.or_eq_false_iff]
  exact ⟨fun h => closed_of h, fun h i k a b ha hb => h.pair (List.mem_of_getElem? ha) (List.mem_of_getElem? hb)⟩
theorem blk9 {w : World} {g : Nat} {x : CV} (h : Blk w g 44 x.cells.toArray) : At9 w g 0 x := by
  obtain ⟨a0, a1, a2, a3, a4, a5, a6, a7, a8⟩ := cells9 h
  exact ⟨a0, a1, a2, a3, a4, a5, a6, a7, a8⟩

set_option maxRecDepth 100000 in
set_option maxHeartbeats 2000000 in
theorem sound_any (A : Option Addr) (c : Nat) (l : List CV) (Z : Nat → Prop) (w : World) (h : Chs w Z A l) :
    Calls Try.prog 43 #[.slice A l.length c] w fun e w' => e = .returned (.bool (soundB l)) ∧ Below w.heap.size w w' := by
  obtain ⟨M, hM⟩ : ∃ M, M = soundB l := ⟨_, rfl⟩
  rw [← hM]
  have HM := Lib.hid hM
  have hl1 := h.len
  clear hM
  go_enter Try.func43, Try.ntmps43
  go_wp2_with fail
  go_loopw [9] (fun iv wr => ∃ i : Nat, i ≤ l.length ∧ iv = .int .i64 (i : Int) ∧ Hid (∀ (j k : Nat) (a b : CV), j < i → l[j]? = some a → l[k]? = some b → clB a b = false) ∧ Below w.heap.size w wr) (fun iv _ => l.length - (intOf iv).toNat)
  case atStart => exact ⟨0, Nat.zero_le _, rfl, fun j k a b hj => absurd hj (Nat.not_lt_zero _), Below.refl _ _⟩
  case round =>
    obtain ⟨i, hi, rfl, hd, hb⟩ := hrel
    obtain ⟨wp, rfl⟩ : ∃ wp : World, wp = wr := ⟨_, rfl⟩
    by_cases hlt : i < l.length
    · obtain ⟨b, off, rfl, hz, hbb, at1⟩ := ch_at (h.rd.below hb) hlt
      have HX := Lib.hid (show l[i]? = some l[i] from List.getElem?_eq_getElem hlt)
      generalize l[i] = x at *
      obtain ⟨a0, a1, a2, a3, a4, a5, a6, a7, a8⟩ := at1
      go_wp2_with fail
      clear a0 a1 a2 a3 a4 a5 a6 a7 a8
      have hbo : Below w.heap.size w (wp.alloc (.cells #[.string x.p, .int .i64 x.b, .bool x.m, .bool x.t, .int .i64 x.k, .int .i64 x.o, .int .i64 x.s, .int .i64 x.l, .int .i64 x.v] 44)) := hb.alloc hb.size _
      have b4 : Blk (wp.alloc (.cells #[.string x.p, .int .i64 x.b, .bool x.m, .bool x.t, .int .i64 x.k, .int .i64 x.o, .int .i64 x.s, .int .i64 x.l, .int .i64 x.v] 44)) wp.heap.size 44 x.cells.toArray := Blk.new wp _ _
      have hzo : wp.heap.size < (wp.alloc (.cells #[.string x.p, .int .i64 x.b, .bool x.m, .bool x.t, .int .i64 x.k, .int .i64 x.o, .int .i64 x.s, .int .i64 x.l, .int .i64 x.v] 44)).heap.size := by simp
      generalize wp.alloc (.cells #[.string x.p, .int .i64 x.b, .bool x.m, .bool x.t, .int .i64 x.k, .int .i64 x.o, .int .i64 x.s, .int .i64 x.l, .int .i64 x.v] 44) = wo at *
      go_loopw [15] (fun kv wr => ∃ k : Nat, k ≤ l.length ∧ kv = .int .i64 (k : Int) ∧ Hid (∀ (k' : Nat) (b : CV), k' < k → l[k']? = some b → clB x b = false) ∧ Below wo.heap.size wo wr) (fun kv _ => l.length - (intOf kv).toNat)
      case atStart => exact ⟨0, Nat.zero_le _, rfl, fun k' b hk => absurd hk (Nat.not_lt_zero _), Below.refl _ _⟩
      case round =>
        obtain ⟨k, hk, rfl, hdk, hbq⟩ := hrel
        have hbw : Below w.heap.size w wr := hbo.trans (hbq.mono hbo.size)
        by_cases hlk : k < l.length
        · obtain ⟨b', off', hA, hz', hbb', at2⟩ := ch_at (h.rd.below hbw) hlk
          injection hA with hA
          injection hA with hA1 hA2
          subst hA1 hA2
          have HY := Lib.hid (show l[k]? = some l[k] from List.getElem?_eq_getElem hlk)
          generalize l[k] = y at *
          have hpx := h.p x (List.mem_of_getElem? HX.out)
          have hpy := h.p y (List.mem_of_getElem? HY.out)
          have HC := Lib.hid (fun w => fclash_any x y (by omega) (by omega) w)
          have HN : Hid (clB x y = true → M = false) := fun e => by rw [HM.out]; exact soundB_no HX.out HY.out e
          have HT : Hid (clB x y = false → ∀ (k' : Nat) (b : CV), k' < k + 1 → l[k']? = some b → clB x b = false) := fun e k' b hk' hb' => by
            rcases Nat.lt_or_ge k' k with h1 | h1
            · exact hdk.out k' b h1 hb'
            · obtain rfl : k' = k := by omega
              rw [HY.out] at hb'
              injection hb' with hb'
              rw [← hb']
              exact e
          generalize clB x y = R at *
          have b4q := b4.below hbq
          obtain ⟨c0, c1, c2, c3, c4, c5, c6, c7, c8⟩ := at2
          cases R
          · have HT2 := Lib.hid (HT.out rfl)
            clear HT HN hpx hpy hdk

            have b4r : Blk (wr.alloc (.cells #[.string y.p, .int .i64 y.b, .bool y.m, .bool y.t, .int .i64 y.k, .int .i64 y.o, .int .i64 y.s, .int .i64 y.l, .int .i64 y.v] 44)) wp.heap.size 44 x.cells.toArray := b4q.alloc _
            have b6r : Blk (wr.alloc (.cells #[.string y.p, .int .i64 y.b, .bool y.m, .bool y.t, .int .i64 y.k, .int .i64 y.o, .int .i64 y.s, .int .i64 y.l, .int .i64 y.v] 44)) wr.heap.size 44 y.cells.toArray := Blk.new wr _ _
            have hbr : Below wo.heap.size wo (wr.alloc (.cells #[.string y.p, .int .i64 y.b, .bool y.m, .bool y.t, .int .i64 y.k, .int .i64 y.o, .int .i64 y.s, .int .i64 y.l, .int .i64 y.v] 44)) := hbq.alloc hbq.size _
            clear b4q
            obtain ⟨a0, a1, a2, a3, a4, a5, a6, a7, a8⟩ := cells9 b4r
            obtain ⟨d0, d1, d2, d3, d4, d5, d6, d7, d8⟩ := cells9 b6r
            go_wp2_with fail
            refine (HC.out _).mono ?_
            rintro e w2 ⟨rfl, hb2⟩
            have hb3 := hbr.trans (hb2.mono hbr.size)
            clear a0 a1 a2 a3 a4 a5 a6 a7 a8 d0 d1 d2 d3 d4 d5 d6 d7 d8 c0 c1 c2 c3 c4 c5 c6 c7 c8 hb2 b4r b6r hbr
            go_wp2_with fail

            go_roundw
            case rel => exact ⟨k + 1, hlk, by go_num, HT2.out, hb3⟩
            case measure => simp [intOf]; omega
          · have HN2 := Lib.hid (HN.out rfl)
            clear HT HN hpx hpy hdk

            have b4r : Blk (wr.alloc (.cells #[.string y.p, .int .i64 y.b, .bool y.m, .bool y.t, .int .i64 y.k, .int .i64 y.o, .int .i64 y.s, .int .i64 y.l, .int .i64 y.v] 44)) wp.heap.size 44 x.cells.toArray := b4q.alloc _
            have b6r : Blk (wr.alloc (.cells #[.string y.p, .int .i64 y.b, .bool y.m, .bool y.t, .int .i64 y.k, .int .i64 y.o, .int .i64 y.s, .int .i64 y.l, .int .i64 y.v] 44)) wr.heap.size 44 y.cells.toArray := Blk.new wr _ _
            have hbr : Below wo.heap.size wo (wr.alloc (.cells #[.string y.p, .int .i64 y.b, .bool y.m, .bool y.t, .int .i64 y.k, .int .i64 y.o, .int .i64 y.s, .int .i64 y.l, .int .i64 y.v] 44)) := hbq.alloc hbq.size _
            clear b4q
            obtain ⟨a0, a1, a2, a3, a4, a5, a6, a7, a8⟩ := cells9 b4r
            obtain ⟨d0, d1, d2, d3, d4, d5, d6, d7, d8⟩ := cells9 b6r
            go_wp2_with fail
            refine (HC.out _).mono ?_
            rintro e w2 ⟨rfl, hb2⟩
            have hb3 := hbr.trans (hb2.mono hbr.size)
            clear a0 a1 a2 a3 a4 a5 a6 a7 a8 d0 d1 d2 d3 d4 d5 d6 d7 d8 c0 c1 c2 c3 c4 c5 c6 c7 c8 hb2 b4r b6r hbr
            go_wp2_with fail

            go_ret
            exact ⟨ret_b HN2.out.symm, hbo.trans (hb3.mono hbo.size)⟩
        · have e : k = l.length := by omega
          subst e
          have HD : Hid (∀ (j k : Nat) (a b : CV), j < i + 1 → l[j]? = some a → l[k]? = some b → clB a b = false) := fun j k' a b hj ha hb' => by
            rcases Nat.lt_or_ge j i with h1 | h1
            · exact hd.out j k' a b h1 ha hb'
            · obtain rfl : j = i := by omega
              rw [HX.out] at ha
              injection ha with ha
              rw [← ha]
              exact hdk.out k' b (List.getElem?_eq_some_iff.1 hb').1 hb'
          clear hdk hd
          go_wp2_with fail
          go_roundw
          case rel => exact ⟨i + 1, hlt, by go_num, HD.out, hbw⟩
          case measure => simp [intOf]; omega
    · have e : i = l.length := by omega
      subst e
      go_wp2_with fail
      go_ret
      refine ⟨ret_b ?_, hb⟩
      rw [HM.out]
      symm
      rw [soundB_iff]
      intro j k a b ha hb'
      exact hd.out j k a b (List.getElem?_eq_some_iff.1 ha).1 ha hb'
end Go.Proofs.Ytffimpjjdhnajaa
