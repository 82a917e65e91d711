/- tenderref26: Upper, Lower, Clash. -/
import Derived.Test.YtffimpjjdhnajaaFenceOne
namespace Go.Proofs.Ytffimpjjdhnajaa
open Go.RowKit Go.WideShapes Go.ChangeShapes Go.ChangeAt

/-- a change -/
structure CV where
  p : ByteArray
  b : Int
  m : Bool
  t : Bool
  k : Int
  o : Int
  s : Int
  l : Int
  v : Int
def CV.cells (x : CV) : List Value := [.string x.p, .int .i64 x.b, .bool x.m, .bool x.t, .int .i64 x.k, .int .i64 x.o, .int .i64 x.s, .int .i64 x.l, .int .i64 x.v]
abbrev CV.val (x : CV) : Value := chV x.p x.b x.m x.t x.k x.o x.s x.l x.v
def CV.res (x : CV) : Int := resK x.b x.k x.o x.v
def CV.und (q p : CV) : Bool := underB (tl q.p) (tl p.p)
/-- does p give way for q, under it? -/
def upB (p q : CV) : Bool := q.und p && movesB p.v && !(p.res == 2) && (openB q.v || !(q.res == 0))
/-- does q give way for p, above it? -/
def lowB (p q : CV) : Bool := q.und p && movesB q.v && (openB p.v || (!(q.res == 0) && !(p.res == 2)))

theorem cells9 {w : World} {g : Nat} {x : CV} (h : Blk w g 44 x.cells.toArray) :
    w.cell? ⟨g, 0, none⟩ = some (.string x.p) ∧ w.cell? ⟨g, 1, none⟩ = some (.int .i64 x.b) ∧ w.cell? ⟨g, 2, none⟩ = some (.bool x.m) ∧ w.cell? ⟨g, 3, none⟩ = some (.bool x.t) ∧ w.cell? ⟨g, 4, none⟩ = some (.int .i64 x.k) ∧ w.cell? ⟨g, 5, none⟩ = some (.int .i64 x.o) ∧ w.cell? ⟨g, 6, none⟩ = some (.int .i64 x.s) ∧ w.cell? ⟨g, 7, none⟩ = some (.int .i64 x.l) ∧ w.cell? ⟨g, 8, none⟩ = some (.int .i64 x.v) :=
  ⟨h.cell 0, h.cell 1, h.cell 2, h.cell 3, h.cell 4, h.cell 5, h.cell 6, h.cell 7, h.cell 8⟩


set_option maxRecDepth 100000 in
set_option maxHeartbeats 1000000 in
theorem upperR_any (p q : CV) (hp : p.p.size ≤ 9223372036854775807) (hq : q.p.size ≤ 9223372036854775807) (w : World) :
    Calls Try.prog 73 #[p.val, q.val] w fun e w' => e = .returned (.bool (upB p q)) ∧ Below w.heap.size w w' := by
  obtain ⟨M, hM⟩ : ∃ M, M = upB p q := ⟨_, rfl⟩
  rw [← hM]
  have hl : Below w.heap.size w ((w.alloc (.cells #[.string p.p, .int .i64 p.b, .bool p.m, .bool p.t, .int .i64 p.k, .int .i64 p.o, .int .i64 p.s, .int .i64 p.l, .int .i64 p.v] 44)).alloc (.cells #[.string q.p, .int .i64 q.b, .bool q.m, .bool q.t, .int .i64 q.k, .int .i64 q.o, .int .i64 q.s, .int .i64 q.l, .int .i64 q.v] 44)) := (by repeat (first | exact Below.refl _ _ | refine Below.alloc ?_ (by simp) _ | refine Below.setCell ?_ (by simp) _ | refine Below.drew ?_))
  have bP : Blk ((w.alloc (.cells #[.string p.p, .int .i64 p.b, .bool p.m, .bool p.t, .int .i64 p.k, .int .i64 p.o, .int .i64 p.s, .int .i64 p.l, .int .i64 p.v] 44)).alloc (.cells #[.string q.p, .int .i64 q.b, .bool q.m, .bool q.t, .int .i64 q.k, .int .i64 q.o, .int .i64 q.s, .int .i64 q.l, .int .i64 q.v] 44)) w.heap.size 44 p.cells.toArray := (Blk.new w 44 #[.string p.p, .int .i64 p.b, .bool p.m, .bool p.t, .int .i64 p.k, .int .i64 p.o, .int .i64 p.s, .int .i64 p.l, .int .i64 p.v]).alloc _
  have bQ : Blk ((w.alloc (.cells #[.string p.p, .int .i64 p.b, .bool p.m, .bool p.t, .int .i64 p.k, .int .i64 p.o, .int .i64 p.s, .int .i64 p.l, .int .i64 p.v] 44)).alloc (.cells #[.string q.p, .int .i64 q.b, .bool q.m, .bool q.t, .int .i64 q.k, .int .i64 q.o, .int .i64 q.s, .int .i64 q.l, .int .i64 q.v] 44)) (w.heap.size + 1) 44 q.cells.toArray := by
    have h := Blk.new (w.alloc (.cells #[.string p.p, .int .i64 p.b, .bool p.m, .bool p.t, .int .i64 p.k, .int .i64 p.o, .int .i64 p.s, .int .i64 p.l, .int .i64 p.v] 44)) 44 #[.string q.p, .int .i64 q.b, .bool q.m, .bool q.t, .int .i64 q.k, .int .i64 q.o, .int .i64 q.s, .int .i64 q.l, .int .i64 q.v]
    rw [World.size_alloc] at h
    exact h

  have HX := Lib.hid (fun w => resultR_any p.p p.b p.m p.t p.k p.o p.s p.l p.v w)
  have HY := Lib.hid (fun w => resultR_any q.p q.b q.m q.t q.k q.o q.s q.l q.v w)
  have HU := Lib.hid (fun w => refUnder_any q.p p.p hq hp w)
  have HM := Lib.hid (fun w => movesR_any p.p p.b p.m p.t p.k p.o p.s p.l p.v w)
  have HO := Lib.hid (fun w => openR_any q.p q.b q.m q.t q.k q.o q.s q.l q.v w)
  unfold upB CV.und CV.res at hM
  generalize resK p.b p.k p.o p.v = x at *
  generalize resK q.b q.k q.o q.v = y at *
  generalize resS p.v = z at *
  generalize resS q.v = u at *
  generalize underB (tl q.p) (tl p.p) = U at *
  generalize movesB p.v = S at *
  generalize openB q.v = O at *
  have HE := Lib.hid hM
  clear hM
  cases U
  · have HE2 : Hid (M = false) := by show _ = _; rw [HE.out]; simp
    clear HE

    go_enter Try.func73, Try.ntmps73
    go_wp2_with fail
    generalize (w.alloc (.cells #[.string p.p, .int .i64 p.b, .bool p.m, .bool p.t, .int .i64 p.k, .int .i64 p.o, .int .i64 p.s, .int .i64 p.l, .int .i64 p.v] 44)).alloc (.cells #[.string q.p, .int .i64 q.b, .bool q.m, .bool q.t, .int .i64 q.k, .int .i64 q.o, .int .i64 q.s, .int .i64 q.l, .int .i64 q.v] 44) = V at *
    
    refine (HX.out _).mono ?_
    rintro e V0 ⟨rfl, hb⟩
    replace bP := bP.below hb
    replace bQ := bQ.below hb
    replace hl := hl.trans (hb.mono hl.size)
    clear hb
    obtain ⟨a0, a1, a2, a3, a4, a5, a6, a7, a8⟩ := cells9 bP
    obtain ⟨c0, c1, c2, c3, c4, c5, c6, c7, c8⟩ := cells9 bQ
    go_wp2_with fail
    clear a0 a1 a2 a3 a4 a5 a6 a7 a8 c0 c1 c2 c3 c4 c5 c6 c7 c8
    
    refine (HY.out _).mono ?_
    rintro e V1 ⟨rfl, hb⟩
    replace bP := bP.below hb
    replace bQ := bQ.below hb
    replace hl := hl.trans (hb.mono hl.size)
    clear hb
    obtain ⟨a0, a1, a2, a3, a4, a5, a6, a7, a8⟩ := cells9 bP
    obtain ⟨c0, c1, c2, c3, c4, c5, c6, c7, c8⟩ := cells9 bQ
    go_wp2_with fail
    clear a0 a1 a2 a3 a4 a5 a6 a7 a8 c0 c1 c2 c3 c4 c5 c6 c7 c8
    
    refine (HU.out _).mono ?_
    rintro e V2 ⟨rfl, hb⟩
    replace bP := bP.below hb
    replace bQ := bQ.below hb
    replace hl := hl.trans (hb.mono hl.size)
    clear hb
    obtain ⟨a0, a1, a2, a3, a4, a5, a6, a7, a8⟩ := cells9 bP
    obtain ⟨c0, c1, c2, c3, c4, c5, c6, c7, c8⟩ := cells9 bQ
    go_wp2_with fail
    clear a0 a1 a2 a3 a4 a5 a6 a7 a8 c0 c1 c2 c3 c4 c5 c6 c7 c8
    go_ret
    exact ⟨ret_b (HE2.out.symm), hl⟩

  · cases S
    · have HE2 : Hid (M = false) := by show _ = _; rw [HE.out]; simp
      clear HE

      go_enter Try.func73, Try.ntmps73
      go_wp2_with fail
      generalize (w.alloc (.cells #[.string p.p, .int .i64 p.b, .bool p.m, .bool p.t, .int .i64 p.k, .int .i64 p.o, .int .i64 p.s, .int .i64 p.l, .int .i64 p.v] 44)).alloc (.cells #[.string q.p, .int .i64 q.b, .bool q.m, .bool q.t, .int .i64 q.k, .int .i64 q.o, .int .i64 q.s, .int .i64 q.l, .int .i64 q.v] 44) = V at *
      
      refine (HX.out _).mono ?_
      rintro e V0 ⟨rfl, hb⟩
      replace bP := bP.below hb
      replace bQ := bQ.below hb
      replace hl := hl.trans (hb.mono hl.size)
      clear hb
      obtain ⟨a0, a1, a2, a3, a4, a5, a6, a7, a8⟩ := cells9 bP
      obtain ⟨c0, c1, c2, c3, c4, c5, c6, c7, c8⟩ := cells9 bQ
      go_wp2_with fail
      clear a0 a1 a2 a3 a4 a5 a6 a7 a8 c0 c1 c2 c3 c4 c5 c6 c7 c8
      
      refine (HY.out _).mono ?_
      rintro e V1 ⟨rfl, hb⟩
      replace bP := bP.below hb
      replace bQ := bQ.below hb
      replace hl := hl.trans (hb.mono hl.size)
      clear hb
      obtain ⟨a0, a1, a2, a3, a4, a5, a6, a7, a8⟩ := cells9 bP
      obtain ⟨c0, c1, c2, c3, c4, c5, c6, c7, c8⟩ := cells9 bQ
      go_wp2_with fail
      clear a0 a1 a2 a3 a4 a5 a6 a7 a8 c0 c1 c2 c3 c4 c5 c6 c7 c8
      
      refine (HU.out _).mono ?_
      rintro e V2 ⟨rfl, hb⟩
      replace bP := bP.below hb
      replace bQ := bQ.below hb
      replace hl := hl.trans (hb.mono hl.size)
      clear hb
      obtain ⟨a0, a1, a2, a3, a4, a5, a6, a7, a8⟩ := cells9 bP
      obtain ⟨c0, c1, c2, c3, c4, c5, c6, c7, c8⟩ := cells9 bQ
      go_wp2_with fail
      clear a0 a1 a2 a3 a4 a5 a6 a7 a8 c0 c1 c2 c3 c4 c5 c6 c7 c8
      
      refine (HM.out _).mono ?_
      rintro e V3 ⟨rfl, hb⟩
      replace bP := bP.below hb
      replace bQ := bQ.below hb
      replace hl := hl.trans (hb.mono hl.size)
      clear hb
      obtain ⟨a0, a1, a2, a3, a4, a5, a6, a7, a8⟩ := cells9 bP
      obtain ⟨c0, c1, c2, c3, c4, c5, c6, c7, c8⟩ := cells9 bQ
      go_wp2_with fail
      clear a0 a1 a2 a3 a4 a5 a6 a7 a8 c0 c1 c2 c3 c4 c5 c6 c7 c8
      go_ret
      exact ⟨ret_b (HE2.out.symm), hl⟩

    · cases hx : (x == 2)
      · rw [hx] at HE
        cases O
        · have HE2 : Hid (M = !(y == 0)) := by show _ = _; rw [HE.out]; simp
          clear HE

          go_enter Try.func73, Try.ntmps73
          go_wp2_with fail
          generalize (w.alloc (.cells #[.string p.p, .int .i64 p.b, .bool p.m, .bool p.t, .int .i64 p.k, .int .i64 p.o, .int .i64 p.s, .int .i64 p.l, .int .i64 p.v] 44)).alloc (.cells #[.string q.p, .int .i64 q.b, .bool q.m, .bool q.t, .int .i64 q.k, .int .i64 q.o, .int .i64 q.s, .int .i64 q.l, .int .i64 q.v] 44) = V at *
          
          refine (HX.out _).mono ?_
          rintro e V0 ⟨rfl, hb⟩
          replace bP := bP.below hb
          replace bQ := bQ.below hb
          replace hl := hl.trans (hb.mono hl.size)
          clear hb
          obtain ⟨a0, a1, a2, a3, a4, a5, a6, a7, a8⟩ := cells9 bP
          obtain ⟨c0, c1, c2, c3, c4, c5, c6, c7, c8⟩ := cells9 bQ
          go_wp2_with fail
          clear a0 a1 a2 a3 a4 a5 a6 a7 a8 c0 c1 c2 c3 c4 c5 c6 c7 c8
          
          refine (HY.out _).mono ?_
          rintro e V1 ⟨rfl, hb⟩
          replace bP := bP.below hb
          replace bQ := bQ.below hb
          replace hl := hl.trans (hb.mono hl.size)
          clear hb
          obtain ⟨a0, a1, a2, a3, a4, a5, a6, a7, a8⟩ := cells9 bP
          obtain ⟨c0, c1, c2, c3, c4, c5, c6, c7, c8⟩ := cells9 bQ
          go_wp2_with fail
          clear a0 a1 a2 a3 a4 a5 a6 a7 a8 c0 c1 c2 c3 c4 c5 c6 c7 c8
          
          refine (HU.out _).mono ?_
          rintro e V2 ⟨rfl, hb⟩
          replace bP := bP.below hb
          replace bQ := bQ.below hb
          replace hl := hl.trans (hb.mono hl.size)
          clear hb
          obtain ⟨a0, a1, a2, a3, a4, a5, a6, a7, a8⟩ := cells9 bP
          obtain ⟨c0, c1, c2, c3, c4, c5, c6, c7, c8⟩ := cells9 bQ
          go_wp2_with fail
          clear a0 a1 a2 a3 a4 a5 a6 a7 a8 c0 c1 c2 c3 c4 c5 c6 c7 c8
          
          refine (HM.out _).mono ?_
          rintro e V3 ⟨rfl, hb⟩
          replace bP := bP.below hb
          replace bQ := bQ.below hb
          replace hl := hl.trans (hb.mono hl.size)
          clear hb
          obtain ⟨a0, a1, a2, a3, a4, a5, a6, a7, a8⟩ := cells9 bP
          obtain ⟨c0, c1, c2, c3, c4, c5, c6, c7, c8⟩ := cells9 bQ
          go_wp2_with fail
          clear a0 a1 a2 a3 a4 a5 a6 a7 a8 c0 c1 c2 c3 c4 c5 c6 c7 c8
          
          refine (HO.out _).mono ?_
          rintro e V4 ⟨rfl, hb⟩
          replace bP := bP.below hb
          replace bQ := bQ.below hb
          replace hl := hl.trans (hb.mono hl.size)
          clear hb
          obtain ⟨a0, a1, a2, a3, a4, a5, a6, a7, a8⟩ := cells9 bP
          obtain ⟨c0, c1, c2, c3, c4, c5, c6, c7, c8⟩ := cells9 bQ
          go_wp2_with fail
          clear a0 a1 a2 a3 a4 a5 a6 a7 a8 c0 c1 c2 c3 c4 c5 c6 c7 c8
          go_ret
          exact ⟨ret_b (by rw [HE2.out]; simp [bne]), hl⟩

        · have HE2 : Hid (M = true) := by show _ = _; rw [HE.out]; simp
          clear HE

          go_enter Try.func73, Try.ntmps73
          go_wp2_with fail
          generalize (w.alloc (.cells #[.string p.p, .int .i64 p.b, .bool p.m, .bool p.t, .int .i64 p.k, .int .i64 p.o, .int .i64 p.s, .int .i64 p.l, .int .i64 p.v] 44)).alloc (.cells #[.string q.p, .int .i64 q.b, .bool q.m, .bool q.t, .int .i64 q.k, .int .i64 q.o, .int .i64 q.s, .int .i64 q.l, .int .i64 q.v] 44) = V at *
          
          refine (HX.out _).mono ?_
          rintro e V0 ⟨rfl, hb⟩
          replace bP := bP.below hb
          replace bQ := bQ.below hb
          replace hl := hl.trans (hb.mono hl.size)
          clear hb
          obtain ⟨a0, a1, a2, a3, a4, a5, a6, a7, a8⟩ := cells9 bP
          obtain ⟨c0, c1, c2, c3, c4, c5, c6, c7, c8⟩ := cells9 bQ
          go_wp2_with fail
          clear a0 a1 a2 a3 a4 a5 a6 a7 a8 c0 c1 c2 c3 c4 c5 c6 c7 c8
          
          refine (HY.out _).mono ?_
          rintro e V1 ⟨rfl, hb⟩
          replace bP := bP.below hb
          replace bQ := bQ.below hb
          replace hl := hl.trans (hb.mono hl.size)
          clear hb
          obtain ⟨a0, a1, a2, a3, a4, a5, a6, a7, a8⟩ := cells9 bP
          obtain ⟨c0, c1, c2, c3, c4, c5, c6, c7, c8⟩ := cells9 bQ
          go_wp2_with fail
          clear a0 a1 a2 a3 a4 a5 a6 a7 a8 c0 c1 c2 c3 c4 c5 c6 c7 c8
          
          refine (HU.out _).mono ?_
          rintro e V2 ⟨rfl, hb⟩
          replace bP := bP.below hb
          replace bQ := bQ.below hb
          replace hl := hl.trans (hb.mono hl.size)
          clear hb
          obtain ⟨a0, a1, a2, a3, a4, a5, a6, a7, a8⟩ := cells9 bP
          obtain ⟨c0, c1, c2, c3, c4, c5, c6, c7, c8⟩ := cells9 bQ
          go_wp2_with fail
          clear a0 a1 a2 a3 a4 a5 a6 a7 a8 c0 c1 c2 c3 c4 c5 c6 c7 c8
          
          refine (HM.out _).mono ?_
          rintro e V3 ⟨rfl, hb⟩
          replace bP := bP.below hb
          replace bQ := bQ.below hb
          replace hl := hl.trans (hb.mono hl.size)
          clear hb
          obtain ⟨a0, a1, a2, a3, a4, a5, a6, a7, a8⟩ := cells9 bP
          obtain ⟨c0, c1, c2, c3, c4, c5, c6, c7, c8⟩ := cells9 bQ
          go_wp2_with fail
          clear a0 a1 a2 a3 a4 a5 a6 a7 a8 c0 c1 c2 c3 c4 c5 c6 c7 c8
          
          refine (HO.out _).mono ?_
          rintro e V4 ⟨rfl, hb⟩
          replace bP := bP.below hb
          replace bQ := bQ.below hb
          replace hl := hl.trans (hb.mono hl.size)
          clear hb
          obtain ⟨a0, a1, a2, a3, a4, a5, a6, a7, a8⟩ := cells9 bP
          obtain ⟨c0, c1, c2, c3, c4, c5, c6, c7, c8⟩ := cells9 bQ
          go_wp2_with fail
          clear a0 a1 a2 a3 a4 a5 a6 a7 a8 c0 c1 c2 c3 c4 c5 c6 c7 c8
          go_ret
          exact ⟨ret_b (HE2.out.symm), hl⟩

      · rw [hx] at HE
        have HE2 : Hid (M = false) := by show _ = _; rw [HE.out]; simp
        clear HE

        go_enter Try.func73, Try.ntmps73
        go_wp2_with fail
        generalize (w.alloc (.cells #[.string p.p, .int .i64 p.b, .bool p.m, .bool p.t, .int .i64 p.k, .int .i64 p.o, .int .i64 p.s, .int .i64 p.l, .int .i64 p.v] 44)).alloc (.cells #[.string q.p, .int .i64 q.b, .bool q.m, .bool q.t, .int .i64 q.k, .int .i64 q.o, .int .i64 q.s, .int .i64 q.l, .int .i64 q.v] 44) = V at *
        
        refine (HX.out _).mono ?_
        rintro e V0 ⟨rfl, hb⟩
        replace bP := bP.below hb
        replace bQ := bQ.below hb
        replace hl := hl.trans (hb.mono hl.size)
        clear hb
        obtain ⟨a0, a1, a2, a3, a4, a5, a6, a7, a8⟩ := cells9 bP
        obtain ⟨c0, c1, c2, c3, c4, c5, c6, c7, c8⟩ := cells9 bQ
        go_wp2_with fail
        clear a0 a1 a2 a3 a4 a5 a6 a7 a8 c0 c1 c2 c3 c4 c5 c6 c7 c8
        
        refine (HY.out _).mono ?_
        rintro e V1 ⟨rfl, hb⟩
        replace bP := bP.below hb
        replace bQ := bQ.below hb
        replace hl := hl.trans (hb.mono hl.size)
        clear hb
        obtain ⟨a0, a1, a2, a3, a4, a5, a6, a7, a8⟩ := cells9 bP
        obtain ⟨c0, c1, c2, c3, c4, c5, c6, c7, c8⟩ := cells9 bQ
        go_wp2_with fail
        clear a0 a1 a2 a3 a4 a5 a6 a7 a8 c0 c1 c2 c3 c4 c5 c6 c7 c8
        
        refine (HU.out _).mono ?_
        rintro e V2 ⟨rfl, hb⟩
        replace bP := bP.below hb
        replace bQ := bQ.below hb
        replace hl := hl.trans (hb.mono hl.size)
        clear hb
        obtain ⟨a0, a1, a2, a3, a4, a5, a6, a7, a8⟩ := cells9 bP
        obtain ⟨c0, c1, c2, c3, c4, c5, c6, c7, c8⟩ := cells9 bQ
        go_wp2_with fail
        clear a0 a1 a2 a3 a4 a5 a6 a7 a8 c0 c1 c2 c3 c4 c5 c6 c7 c8
        
        refine (HM.out _).mono ?_
        rintro e V3 ⟨rfl, hb⟩
        replace bP := bP.below hb
        replace bQ := bQ.below hb
        replace hl := hl.trans (hb.mono hl.size)
        clear hb
        obtain ⟨a0, a1, a2, a3, a4, a5, a6, a7, a8⟩ := cells9 bP
        obtain ⟨c0, c1, c2, c3, c4, c5, c6, c7, c8⟩ := cells9 bQ
        go_wp2_with fail
        clear a0 a1 a2 a3 a4 a5 a6 a7 a8 c0 c1 c2 c3 c4 c5 c6 c7 c8
        go_ret
        exact ⟨ret_b (HE2.out.symm), hl⟩


set_option maxRecDepth 100000 in
set_option maxHeartbeats 1000000 in
theorem lowerR_any (p q : CV) (hp : p.p.size ≤ 9223372036854775807) (hq : q.p.size ≤ 9223372036854775807) (w : World) :
    Calls Try.prog 74 #[p.val, q.val] w fun e w' => e = .returned (.bool (lowB p q)) ∧ Below w.heap.size w w' := by
  obtain ⟨M, hM⟩ : ∃ M, M = lowB p q := ⟨_, rfl⟩
  rw [← hM]
  have hl : Below w.heap.size w ((w.alloc (.cells #[.string p.p, .int .i64 p.b, .bool p.m, .bool p.t, .int .i64 p.k, .int .i64 p.o, .int .i64 p.s, .int .i64 p.l, .int .i64 p.v] 44)).alloc (.cells #[.string q.p, .int .i64 q.b, .bool q.m, .bool q.t, .int .i64 q.k, .int .i64 q.o, .int .i64 q.s, .int .i64 q.l, .int .i64 q.v] 44)) := (by repeat (first | exact Below.refl _ _ | refine Below.alloc ?_ (by simp) _ | refine Below.setCell ?_ (by simp) _ | refine Below.drew ?_))
  have bP : Blk ((w.alloc (.cells #[.string p.p, .int .i64 p.b, .bool p.m, .bool p.t, .int .i64 p.k, .int .i64 p.o, .int .i64 p.s, .int .i64 p.l, .int .i64 p.v] 44)).alloc (.cells #[.string q.p, .int .i64 q.b, .bool q.m, .bool q.t, .int .i64 q.k, .int .i64 q.o, .int .i64 q.s, .int .i64 q.l, .int .i64 q.v] 44)) w.heap.size 44 p.cells.toArray := (Blk.new w 44 #[.string p.p, .int .i64 p.b, .bool p.m, .bool p.t, .int .i64 p.k, .int .i64 p.o, .int .i64 p.s, .int .i64 p.l, .int .i64 p.v]).alloc _
  have bQ : Blk ((w.alloc (.cells #[.string p.p, .int .i64 p.b, .bool p.m, .bool p.t, .int .i64 p.k, .int .i64 p.o, .int .i64 p.s, .int .i64 p.l, .int .i64 p.v] 44)).alloc (.cells #[.string q.p, .int .i64 q.b, .bool q.m, .bool q.t, .int .i64 q.k, .int .i64 q.o, .int .i64 q.s, .int .i64 q.l, .int .i64 q.v] 44)) (w.heap.size + 1) 44 q.cells.toArray := by
    have h := Blk.new (w.alloc (.cells #[.string p.p, .int .i64 p.b, .bool p.m, .bool p.t, .int .i64 p.k, .int .i64 p.o, .int .i64 p.s, .int .i64 p.l, .int .i64 p.v] 44)) 44 #[.string q.p, .int .i64 q.b, .bool q.m, .bool q.t, .int .i64 q.k, .int .i64 q.o, .int .i64 q.s, .int .i64 q.l, .int .i64 q.v]
    rw [World.size_alloc] at h
    exact h

  have HX := Lib.hid (fun w => resultR_any p.p p.b p.m p.t p.k p.o p.s p.l p.v w)
  have HY := Lib.hid (fun w => resultR_any q.p q.b q.m q.t q.k q.o q.s q.l q.v w)
  have HU := Lib.hid (fun w => refUnder_any q.p p.p hq hp w)
  have HM := Lib.hid (fun w => movesR_any q.p q.b q.m q.t q.k q.o q.s q.l q.v w)
  have HO := Lib.hid (fun w => openR_any p.p p.b p.m p.t p.k p.o p.s p.l p.v w)
  unfold lowB CV.und CV.res at hM
  generalize resK p.b p.k p.o p.v = x at *
  generalize resK q.b q.k q.o q.v = y at *
  generalize resS p.v = z at *
  generalize resS q.v = u at *
  generalize underB (tl q.p) (tl p.p) = U at *
  generalize movesB q.v = S at *
  generalize openB p.v = O at *
  have HE := Lib.hid hM
  clear hM
  cases U
  · have HE2 : Hid (M = false) := by show _ = _; rw [HE.out]; simp
    clear HE

    go_enter Try.func74, Try.ntmps74
    go_wp2_with fail
    generalize (w.alloc (.cells #[.string p.p, .int .i64 p.b, .bool p.m, .bool p.t, .int .i64 p.k, .int .i64 p.o, .int .i64 p.s, .int .i64 p.l, .int .i64 p.v] 44)).alloc (.cells #[.string q.p, .int .i64 q.b, .bool q.m, .bool q.t, .int .i64 q.k, .int .i64 q.o, .int .i64 q.s, .int .i64 q.l, .int .i64 q.v] 44) = V at *
    
    refine (HX.out _).mono ?_
    rintro e V0 ⟨rfl, hb⟩
    replace bP := bP.below hb
    replace bQ := bQ.below hb
    replace hl := hl.trans (hb.mono hl.size)
    clear hb
    obtain ⟨a0, a1, a2, a3, a4, a5, a6, a7, a8⟩ := cells9 bP
    obtain ⟨c0, c1, c2, c3, c4, c5, c6, c7, c8⟩ := cells9 bQ
    go_wp2_with fail
    clear a0 a1 a2 a3 a4 a5 a6 a7 a8 c0 c1 c2 c3 c4 c5 c6 c7 c8
    
    refine (HY.out _).mono ?_
    rintro e V1 ⟨rfl, hb⟩
    replace bP := bP.below hb
    replace bQ := bQ.below hb
    replace hl := hl.trans (hb.mono hl.size)
    clear hb
    obtain ⟨a0, a1, a2, a3, a4, a5, a6, a7, a8⟩ := cells9 bP
    obtain ⟨c0, c1, c2, c3, c4, c5, c6, c7, c8⟩ := cells9 bQ
    go_wp2_with fail
    clear a0 a1 a2 a3 a4 a5 a6 a7 a8 c0 c1 c2 c3 c4 c5 c6 c7 c8
    
    refine (HU.out _).mono ?_
    rintro e V2 ⟨rfl, hb⟩
    replace bP := bP.below hb
    replace bQ := bQ.below hb
    replace hl := hl.trans (hb.mono hl.size)
    clear hb
    obtain ⟨a0, a1, a2, a3, a4, a5, a6, a7, a8⟩ := cells9 bP
    obtain ⟨c0, c1, c2, c3, c4, c5, c6, c7, c8⟩ := cells9 bQ
    go_wp2_with fail
    clear a0 a1 a2 a3 a4 a5 a6 a7 a8 c0 c1 c2 c3 c4 c5 c6 c7 c8
    go_ret
    exact ⟨ret_b (HE2.out.symm), hl⟩

  · cases S
    · have HE2 : Hid (M = false) := by show _ = _; rw [HE.out]; simp
      clear HE

      go_enter Try.func74, Try.ntmps74
      go_wp2_with fail
      generalize (w.alloc (.cells #[.string p.p, .int .i64 p.b, .bool p.m, .bool p.t, .int .i64 p.k, .int .i64 p.o, .int .i64 p.s, .int .i64 p.l, .int .i64 p.v] 44)).alloc (.cells #[.string q.p, .int .i64 q.b, .bool q.m, .bool q.t, .int .i64 q.k, .int .i64 q.o, .int .i64 q.s, .int .i64 q.l, .int .i64 q.v] 44) = V at *
      
      refine (HX.out _).mono ?_
      rintro e V0 ⟨rfl, hb⟩
      replace bP := bP.below hb
      replace bQ := bQ.below hb
      replace hl := hl.trans (hb.mono hl.size)
      clear hb
      obtain ⟨a0, a1, a2, a3, a4, a5, a6, a7, a8⟩ := cells9 bP
      obtain ⟨c0, c1, c2, c3, c4, c5, c6, c7, c8⟩ := cells9 bQ
      go_wp2_with fail
      clear a0 a1 a2 a3 a4 a5 a6 a7 a8 c0 c1 c2 c3 c4 c5 c6 c7 c8
      
      refine (HY.out _).mono ?_
      rintro e V1 ⟨rfl, hb⟩
      replace bP := bP.below hb
      replace bQ := bQ.below hb
      replace hl := hl.trans (hb.mono hl.size)
      clear hb
      obtain ⟨a0, a1, a2, a3, a4, a5, a6, a7, a8⟩ := cells9 bP
      obtain ⟨c0, c1, c2, c3, c4, c5, c6, c7, c8⟩ := cells9 bQ
      go_wp2_with fail
      clear a0 a1 a2 a3 a4 a5 a6 a7 a8 c0 c1 c2 c3 c4 c5 c6 c7 c8
      
      refine (HU.out _).mono ?_
      rintro e V2 ⟨rfl, hb⟩
      replace bP := bP.below hb
      replace bQ := bQ.below hb
      replace hl := hl.trans (hb.mono hl.size)
      clear hb
      obtain ⟨a0, a1, a2, a3, a4, a5, a6, a7, a8⟩ := cells9 bP
      obtain ⟨c0, c1, c2, c3, c4, c5, c6, c7, c8⟩ := cells9 bQ
      go_wp2_with fail
      clear a0 a1 a2 a3 a4 a5 a6 a7 a8 c0 c1 c2 c3 c4 c5 c6 c7 c8
      
      refine (HM.out _).mono ?_
      rintro e V3 ⟨rfl, hb⟩
      replace bP := bP.below hb
      replace bQ := bQ.below hb
      replace hl := hl.trans (hb.mono hl.size)
      clear hb
      obtain ⟨a0, a1, a2, a3, a4, a5, a6, a7, a8⟩ := cells9 bP
      obtain ⟨c0, c1, c2, c3, c4, c5, c6, c7, c8⟩ := cells9 bQ
      go_wp2_with fail
      clear a0 a1 a2 a3 a4 a5 a6 a7 a8 c0 c1 c2 c3 c4 c5 c6 c7 c8
      go_ret
      exact ⟨ret_b (HE2.out.symm), hl⟩

    · cases O
      · cases hy : (y == 0)
        · have hy2 : (y != 0) = true := by simpa [bne] using hy
          have HE2 : Hid (M = !(x == 2)) := by show _ = _; rw [HE.out, hy]; simp
          clear HE

          go_enter Try.func74, Try.ntmps74
          go_wp2_with fail
          generalize (w.alloc (.cells #[.string p.p, .int .i64 p.b, .bool p.m, .bool p.t, .int .i64 p.k, .int .i64 p.o, .int .i64 p.s, .int .i64 p.l, .int .i64 p.v] 44)).alloc (.cells #[.string q.p, .int .i64 q.b, .bool q.m, .bool q.t, .int .i64 q.k, .int .i64 q.o, .int .i64 q.s, .int .i64 q.l, .int .i64 q.v] 44) = V at *
          
          refine (HX.out _).mono ?_
          rintro e V0 ⟨rfl, hb⟩
          replace bP := bP.below hb
          replace bQ := bQ.below hb
          replace hl := hl.trans (hb.mono hl.size)
          clear hb
          obtain ⟨a0, a1, a2, a3, a4, a5, a6, a7, a8⟩ := cells9 bP
          obtain ⟨c0, c1, c2, c3, c4, c5, c6, c7, c8⟩ := cells9 bQ
          go_wp2_with fail
          clear a0 a1 a2 a3 a4 a5 a6 a7 a8 c0 c1 c2 c3 c4 c5 c6 c7 c8
          
          refine (HY.out _).mono ?_
          rintro e V1 ⟨rfl, hb⟩
          replace bP := bP.below hb
          replace bQ := bQ.below hb
          replace hl := hl.trans (hb.mono hl.size)
          clear hb
          obtain ⟨a0, a1, a2, a3, a4, a5, a6, a7, a8⟩ := cells9 bP
          obtain ⟨c0, c1, c2, c3, c4, c5, c6, c7, c8⟩ := cells9 bQ
          go_wp2_with fail
          clear a0 a1 a2 a3 a4 a5 a6 a7 a8 c0 c1 c2 c3 c4 c5 c6 c7 c8
          
          refine (HU.out _).mono ?_
          rintro e V2 ⟨rfl, hb⟩
          replace bP := bP.below hb
          replace bQ := bQ.below hb
          replace hl := hl.trans (hb.mono hl.size)
          clear hb
          obtain ⟨a0, a1, a2, a3, a4, a5, a6, a7, a8⟩ := cells9 bP
          obtain ⟨c0, c1, c2, c3, c4, c5, c6, c7, c8⟩ := cells9 bQ
          go_wp2_with fail
          clear a0 a1 a2 a3 a4 a5 a6 a7 a8 c0 c1 c2 c3 c4 c5 c6 c7 c8
          
          refine (HM.out _).mono ?_
          rintro e V3 ⟨rfl, hb⟩
          replace bP := bP.below hb
          replace bQ := bQ.below hb
          replace hl := hl.trans (hb.mono hl.size)
          clear hb
          obtain ⟨a0, a1, a2, a3, a4, a5, a6, a7, a8⟩ := cells9 bP
          obtain ⟨c0, c1, c2, c3, c4, c5, c6, c7, c8⟩ := cells9 bQ
          go_wp2_with fail
          clear a0 a1 a2 a3 a4 a5 a6 a7 a8 c0 c1 c2 c3 c4 c5 c6 c7 c8
          
          refine (HO.out _).mono ?_
          rintro e V4 ⟨rfl, hb⟩
          replace bP := bP.below hb
          replace bQ := bQ.below hb
          replace hl := hl.trans (hb.mono hl.size)
          clear hb
          obtain ⟨a0, a1, a2, a3, a4, a5, a6, a7, a8⟩ := cells9 bP
          obtain ⟨c0, c1, c2, c3, c4, c5, c6, c7, c8⟩ := cells9 bQ
          go_wp2_with fail
          clear a0 a1 a2 a3 a4 a5 a6 a7 a8 c0 c1 c2 c3 c4 c5 c6 c7 c8
          go_ret
          exact ⟨ret_b (by rw [HE2.out]; simp [bne]), hl⟩

        · have hy2 : (y != 0) = false := by simpa [bne] using hy
          have HE2 : Hid (M = false) := by show _ = _; rw [HE.out, hy]; simp
          clear HE

          go_enter Try.func74, Try.ntmps74
          go_wp2_with fail
          generalize (w.alloc (.cells #[.string p.p, .int .i64 p.b, .bool p.m, .bool p.t, .int .i64 p.k, .int .i64 p.o, .int .i64 p.s, .int .i64 p.l, .int .i64 p.v] 44)).alloc (.cells #[.string q.p, .int .i64 q.b, .bool q.m, .bool q.t, .int .i64 q.k, .int .i64 q.o, .int .i64 q.s, .int .i64 q.l, .int .i64 q.v] 44) = V at *
          
          refine (HX.out _).mono ?_
          rintro e V0 ⟨rfl, hb⟩
          replace bP := bP.below hb
          replace bQ := bQ.below hb
          replace hl := hl.trans (hb.mono hl.size)
          clear hb
          obtain ⟨a0, a1, a2, a3, a4, a5, a6, a7, a8⟩ := cells9 bP
          obtain ⟨c0, c1, c2, c3, c4, c5, c6, c7, c8⟩ := cells9 bQ
          go_wp2_with fail
          clear a0 a1 a2 a3 a4 a5 a6 a7 a8 c0 c1 c2 c3 c4 c5 c6 c7 c8
          
          refine (HY.out _).mono ?_
          rintro e V1 ⟨rfl, hb⟩
          replace bP := bP.below hb
          replace bQ := bQ.below hb
          replace hl := hl.trans (hb.mono hl.size)
          clear hb
          obtain ⟨a0, a1, a2, a3, a4, a5, a6, a7, a8⟩ := cells9 bP
          obtain ⟨c0, c1, c2, c3, c4, c5, c6, c7, c8⟩ := cells9 bQ
          go_wp2_with fail
          clear a0 a1 a2 a3 a4 a5 a6 a7 a8 c0 c1 c2 c3 c4 c5 c6 c7 c8
          
          refine (HU.out _).mono ?_
          rintro e V2 ⟨rfl, hb⟩
          replace bP := bP.below hb
          replace bQ := bQ.below hb
          replace hl := hl.trans (hb.mono hl.size)
          clear hb
          obtain ⟨a0, a1, a2, a3, a4, a5, a6, a7, a8⟩ := cells9 bP
          obtain ⟨c0, c1, c2, c3, c4, c5, c6, c7, c8⟩ := cells9 bQ
          go_wp2_with fail
          clear a0 a1 a2 a3 a4 a5 a6 a7 a8 c0 c1 c2 c3 c4 c5 c6 c7 c8
          
          refine (HM.out _).mono ?_
          rintro e V3 ⟨rfl, hb⟩
          replace bP := bP.below hb
          replace bQ := bQ.below hb
          replace hl := hl.trans (hb.mono hl.size)
          clear hb
          obtain ⟨a0, a1, a2, a3, a4, a5, a6, a7, a8⟩ := cells9 bP
          obtain ⟨c0, c1, c2, c3, c4, c5, c6, c7, c8⟩ := cells9 bQ
          go_wp2_with fail
          clear a0 a1 a2 a3 a4 a5 a6 a7 a8 c0 c1 c2 c3 c4 c5 c6 c7 c8
          
          refine (HO.out _).mono ?_
          rintro e V4 ⟨rfl, hb⟩
          replace bP := bP.below hb
          replace bQ := bQ.below hb
          replace hl := hl.trans (hb.mono hl.size)
          clear hb
          obtain ⟨a0, a1, a2, a3, a4, a5, a6, a7, a8⟩ := cells9 bP
          obtain ⟨c0, c1, c2, c3, c4, c5, c6, c7, c8⟩ := cells9 bQ
          go_wp2_with fail
          clear a0 a1 a2 a3 a4 a5 a6 a7 a8 c0 c1 c2 c3 c4 c5 c6 c7 c8
          go_ret
          exact ⟨ret_b (HE2.out.symm), hl⟩

      · have HE2 : Hid (M = true) := by show _ = _; rw [HE.out]; simp
        clear HE

        go_enter Try.func74, Try.ntmps74
        go_wp2_with fail
        generalize (w.alloc (.cells #[.string p.p, .int .i64 p.b, .bool p.m, .bool p.t, .int .i64 p.k, .int .i64 p.o, .int .i64 p.s, .int .i64 p.l, .int .i64 p.v] 44)).alloc (.cells #[.string q.p, .int .i64 q.b, .bool q.m, .bool q.t, .int .i64 q.k, .int .i64 q.o, .int .i64 q.s, .int .i64 q.l, .int .i64 q.v] 44) = V at *
        
        refine (HX.out _).mono ?_
        rintro e V0 ⟨rfl, hb⟩
        replace bP := bP.below hb
        replace bQ := bQ.below hb
        replace hl := hl.trans (hb.mono hl.size)
        clear hb
        obtain ⟨a0, a1, a2, a3, a4, a5, a6, a7, a8⟩ := cells9 bP
        obtain ⟨c0, c1, c2, c3, c4, c5, c6, c7, c8⟩ := cells9 bQ
        go_wp2_with fail
        clear a0 a1 a2 a3 a4 a5 a6 a7 a8 c0 c1 c2 c3 c4 c5 c6 c7 c8
        
        refine (HY.out _).mono ?_
        rintro e V1 ⟨rfl, hb⟩
        replace bP := bP.below hb
        replace bQ := bQ.below hb
        replace hl := hl.trans (hb.mono hl.size)
        clear hb
        obtain ⟨a0, a1, a2, a3, a4, a5, a6, a7, a8⟩ := cells9 bP
        obtain ⟨c0, c1, c2, c3, c4, c5, c6, c7, c8⟩ := cells9 bQ
        go_wp2_with fail
        clear a0 a1 a2 a3 a4 a5 a6 a7 a8 c0 c1 c2 c3 c4 c5 c6 c7 c8
        
        refine (HU.out _).mono ?_
        rintro e V2 ⟨rfl, hb⟩
        replace bP := bP.below hb
        replace bQ := bQ.below hb
        replace hl := hl.trans (hb.mono hl.size)
        clear hb
        obtain ⟨a0, a1, a2, a3, a4, a5, a6, a7, a8⟩ := cells9 bP
        obtain ⟨c0, c1, c2, c3, c4, c5, c6, c7, c8⟩ := cells9 bQ
        go_wp2_with fail
        clear a0 a1 a2 a3 a4 a5 a6 a7 a8 c0 c1 c2 c3 c4 c5 c6 c7 c8
        
        refine (HM.out _).mono ?_
        rintro e V3 ⟨rfl, hb⟩
        replace bP := bP.below hb
        replace bQ := bQ.below hb
        replace hl := hl.trans (hb.mono hl.size)
        clear hb
        obtain ⟨a0, a1, a2, a3, a4, a5, a6, a7, a8⟩ := cells9 bP
        obtain ⟨c0, c1, c2, c3, c4, c5, c6, c7, c8⟩ := cells9 bQ
        go_wp2_with fail
        clear a0 a1 a2 a3 a4 a5 a6 a7 a8 c0 c1 c2 c3 c4 c5 c6 c7 c8
        
        refine (HO.out _).mono ?_
        rintro e V4 ⟨rfl, hb⟩
        replace bP := bP.below hb
        replace bQ := bQ.below hb
        replace hl := hl.trans (hb.mono hl.size)
        clear hb
        obtain ⟨a0, a1, a2, a3, a4, a5, a6, a7, a8⟩ := cells9 bP
        obtain ⟨c0, c1, c2, c3, c4, c5, c6, c7, c8⟩ := cells9 bQ
        go_wp2_with fail
        clear a0 a1 a2 a3 a4 a5 a6 a7 a8 c0 c1 c2 c3 c4 c5 c6 c7 c8
        go_ret
        exact ⟨ret_b (HE2.out.symm), hl⟩

end Go.Proofs.Ytffimpjjdhnajaa
