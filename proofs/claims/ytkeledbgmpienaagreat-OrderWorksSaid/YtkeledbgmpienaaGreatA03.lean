/- tenderref26: Upper, Lower, Clash. -/
import Derived.Test.YtkeledbgmpienaaGreatA02
import Derived.Laws.StructEq
import Derived.Deep.Quiet
import Derived.StillTail
import Derived.BigQuiet
import Derived.Outline
import Derived.Lib.SliceRun
import Derived.Lib.Hide

namespace Go.Proofs.YtkeledbgmpienaaGreat
open Go.RowKit Go.WideShapes Go.ChangeShapes Go.ChangeAt

/-- a change -/
structure CV where
  p : ByteArray
  b : Int
  m : Bool
  t : Bool
  k : Int
  o : Int
  s : Int
  l : Int
  v : Int
def CV.cells (x : CV) : List Value := [.string x.p, .int .i64 x.b, .bool x.m, .bool x.t, .int .i64 x.k, .int .i64 x.o, .int .i64 x.s, .int .i64 x.l, .int .i64 x.v]
abbrev CV.val (x : CV) : Value := chV x.p x.b x.m x.t x.k x.o x.s x.l x.v
def CV.res (x : CV) : Int := resK x.b x.k x.o x.v
def CV.und (q p : CV) : Bool := underB (tl q.p) (tl p.p)
/-- does p give way for q, under it? -/
def upB (p q : CV) : Bool := q.und p && movesB p.v && !(p.res == 2) && (openB q.v || !(q.res == 0))
/-- does q give way for p, above it? -/
def lowB (p q : CV) : Bool := q.und p && movesB q.v && (openB p.v || (!(q.res == 0) && !(p.res == 2)))

theorem cells9 {w : World} {g : Nat} {x : CV} (h : Blk w g 47 x.cells.toArray) :
    w.cell? ⟨g, 0, none⟩ = some (.string x.p) ∧ w.cell? ⟨g, 1, none⟩ = some (.int .i64 x.b) ∧ w.cell? ⟨g, 2, none⟩ = some (.bool x.m) ∧ w.cell? ⟨g, 3, none⟩ = some (.bool x.t) ∧ w.cell? ⟨g, 4, none⟩ = some (.int .i64 x.k) ∧ w.cell? ⟨g, 5, none⟩ = some (.int .i64 x.o) ∧ w.cell? ⟨g, 6, none⟩ = some (.int .i64 x.s) ∧ w.cell? ⟨g, 7, none⟩ = some (.int .i64 x.l) ∧ w.cell? ⟨g, 8, none⟩ = some (.int .i64 x.v) :=
  ⟨h.cell 0, h.cell 1, h.cell 2, h.cell 3, h.cell 4, h.cell 5, h.cell 6, h.cell 7, h.cell 8⟩


set_option maxRecDepth 100000 in
set_option maxHeartbeats 1000000 in
theorem upperR_any (p q : CV) (hp : p.p.size ≤ 9223372036854775807) (hq : q.p.size ≤ 9223372036854775807) (w : World) :
    Calls Tryz.prog 28 #[p.val, q.val] w fun e w' => e = .returned (.bool (upB p q)) ∧ Below w.heap.size w w' := by
  obtain ⟨M, hM⟩ : ∃ M, M = upB p q := ⟨_, rfl⟩
  rw [← hM]
  have hl : Below w.heap.size w ((w.alloc (.cells #[.string p.p, .int .i64 p.b, .bool p.m, .bool p.t, .int .i64 p.k, .int .i64 p.o, .int .i64 p.s, .int .i64 p.l, .int .i64 p.v] 47)).alloc (.cells #[.string q.p, .int .i64 q.b, .bool q.m, .bool q.t, .int .i64 q.k, .int .i64 q.o, .int .i64 q.s, .int .i64 q.l, .int .i64 q.v] 47)) := (by repeat (first | exact Below.refl _ _ | refine Below.alloc ?_ (by simp) _ | refine Below.setCell ?_ (by simp) _ | refine Below.drew ?_))
  have bP : Blk ((w.alloc (.cells #[.string p.p, .int .i64 p.b, .bool p.m, .bool p.t, .int .i64 p.k, .int .i64 p.o, .int .i64 p.s, .int .i64 p.l, .int .i64 p.v] 47)).alloc (.cells #[.string q.p, .int .i64 q.b, .bool q.m, .bool q.t, .int .i64 q.k, .int .i64 q.o, .int .i64 q.s, .int .i64 q.l, .int .i64 q.v] 47)) w.heap.size 47 p.cells.toArray := (Blk.new w 47 #[.string p.p, .int .i64 p.b, .bool p.m, .bool p.t, .int .i64 p.k, .int .i64 p.o, .int .i64 p.s, .int .i64 p.l, .int .i64 p.v]).alloc _
  have bQ : Blk ((w.alloc (.cells #[.string p.p, .int .i64 p.b, .bool p.m, .bool p.t, .int .i64 p.k, .int .i64 p.o, .int .i64 p.s, .int .i64 p.l, .int .i64 p.v] 47)).alloc (.cells #[.string q.p, .int .i64 q.b, .bool q.m, .bool q.t, .int .i64 q.k, .int .i64 q.o, .int .i64 q.s, .int .i64 q.l, .int .i64 q.v] 47)) (w.heap.size + 1) 47 q.cells.toArray := by
    have h := Blk.new (w.alloc (.cells #[.string p.p, .int .i64 p.b, .bool p.m, .bool p.t, .int .i64 p.k, .int .i64 p.o, .int .i64 p.s, .int .i64 p.l, .int .i64 p.v] 47)) 47 #[.string q.p, .int .i64 q.b, .bool q.m, .bool q.t, .int .i64 q.k, .int .i64 q.o, .int .i64 q.s, .int .i64 q.l, .int .i64 q.v]
    rw [World.size_alloc] at h
    exact h

  have HX := Lib.hid (fun w => resultR_any p.p p.b p.m p.t p.k p.o p.s p.l p.v w)
  have HY := Lib.hid (fun w => resultR_any q.p q.b q.m q.t q.k q.o q.s q.l q.v w)
  have HU := Lib.hid (fun w => refUnder_any q.p p.p hq hp w)
  have HM := Lib.hid (fun w => movesR_any p.p p.b p.m p.t p.k p.o p.s p.l p.v w)
  have HO := Lib.hid (fun w => openR_any q.p q.b q.m q.t q.k q.o q.s q.l q.v w)
  unfold upB CV.und CV.res at hM
  generalize resK p.b p.k p.o p.v = x at *
  generalize resK q.b q.k q.o q.v = y at *
  generalize resS p.v = z at *
  generalize resS q.v = u at *
  generalize underB (tl q.p) (tl p.p) = U at *
  generalize movesB p.v = S at *
  generalize openB q.v = O at *
  have HE := Lib.hid hM
  clear hM
  cases U
  · have HE2 : Hid (M = false) := by show _ = _; rw [HE.out]; simp
    clear HE

    go_enter Tryz.func28, Tryz.ntmps28
    go_wp2_with fail
    generalize (w.alloc (.cells #[.string p.p, .int .i64 p.b, .bool p.m, .bool p.t, .int .i64 p.k, .int .i64 p.o, .int .i64 p.s, .int .i64 p.l, .int .i64 p.v] 47)).alloc (.cells #[.string q.p, .int .i64 q.b, .bool q.m, .bool q.t, .int .i64 q.k, .int .i64 q.o, .int .i64 q.s, .int .i64 q.l, .int .i64 q.v] 47) = V at *
    
    refine (HX.out _).mono ?_
    rintro e V0 ⟨rfl, hb⟩
    replace bP := bP.below hb
    replace bQ := bQ.below hb
    replace hl := hl.trans (hb.mono hl.size)
    clear hb
    obtain ⟨a0, a1, a2, a3, a4, a5, a6, a7, a8⟩ := cells9 bP
    obtain ⟨c0, c1, c2, c3, c4, c5, c6, c7, c8⟩ := cells9 bQ
    go_wp2_with fail
    clear a0 a1 a2 a3 a4 a5 a6 a7 a8 c0 c1 c2 c3 c4 c5 c6 c7 c8
    
    refine (HY.out _).mono ?_
    rintro e V1 ⟨rfl, hb⟩
    replace bP := bP.below hb
    replace bQ := bQ.below hb
    replace hl := hl.trans (hb.mono hl.size)
    clear hb
    obtain ⟨a0, a1, a2, a3, a4, a5, a6, a7, a8⟩ := cells9 bP
    obtain ⟨c0, c1, c2, c3, c4, c5, c6, c7, c8⟩ := cells9 bQ
    go_wp2_with fail
    clear a0 a1 a2 a3 a4 a5 a6 a7 a8 c0 c1 c2 c3 c4 c5 c6 c7 c8
    
    refine (HU.out _).mono ?_
    rintro e V2 ⟨rfl, hb⟩
    replace bP := bP.below hb
    replace bQ := bQ.below hb
    replace hl := hl.trans (hb.mono hl.size)
    clear hb
    obtain ⟨a0, a1, a2, a3, a4, a5, a6, a7, a8⟩ := cells9 bP
    obtain ⟨c0, c1, c2, c3, c4, c5, c6, c7, c8⟩ := cells9 bQ
    go_wp2_with fail
    clear a0 a1 a2 a3 a4 a5 a6 a7 a8 c0 c1 c2 c3 c4 c5 c6 c7 c8
    go_ret
    exact ⟨ret_b (HE2.out.symm), hl⟩

  · cases S
    · have HE2 : Hid (M = false) := by show _ = _; rw [HE.out]; simp
      clear HE

      go_enter Tryz.func28, Tryz.ntmps28
      go_wp2_with fail
      generalize (w.alloc (.cells #[.string p.p, .int .i64 p.b, .bool p.m, .bool p.t, .int .i64 p.k, .int .i64 p.o, .int .i64 p.s, .int .i64 p.l, .int .i64 p.v] 47)).alloc (.cells #[.string q.p, .int .i64 q.b, .bool q.m, .bool q.t, .int .i64 q.k, .int .i64 q.o, .int .i64 q.s, .int .i64 q.l, .int .i64 q.v] 47) = V at *
      
      refine (HX.out _).mono ?_
      rintro e V0 ⟨rfl, hb⟩
      replace bP := bP.below hb
      replace bQ := bQ.below hb
      replace hl := hl.trans (hb.mono hl.size)
      clear hb
      obtain ⟨a0, a1, a2, a3, a4, a5, a6, a7, a8⟩ := cells9 bP
      obtain ⟨c0, c1, c2, c3, c4, c5, c6, c7, c8⟩ := cells9 bQ
      go_wp2_with fail
      clear a0 a1 a2 a3 a4 a5 a6 a7 a8 c0 c1 c2 c3 c4 c5 c6 c7 c8
      
      refine (HY.out _).mono ?_
      rintro e V1 ⟨rfl, hb⟩
      replace bP := bP.below hb
      replace bQ := bQ.below hb
      replace hl := hl.trans (hb.mono hl.size)
      clear hb
      obtain ⟨a0, a1, a2, a3, a4, a5, a6, a7, a8⟩ := cells9 bP
      obtain ⟨c0, c1, c2, c3, c4, c5, c6, c7, c8⟩ := cells9 bQ
      go_wp2_with fail
      clear a0 a1 a2 a3 a4 a5 a6 a7 a8 c0 c1 c2 c3 c4 c5 c6 c7 c8
      
      refine (HU.out _).mono ?_
      rintro e V2 ⟨rfl, hb⟩
      replace bP := bP.below hb
      replace bQ := bQ.below hb
      replace hl := hl.trans (hb.mono hl.size)
      clear hb
      obtain ⟨a0, a1, a2, a3, a4, a5, a6, a7, a8⟩ := cells9 bP
      obtain ⟨c0, c1, c2, c3, c4, c5, c6, c7, c8⟩ := cells9 bQ
      go_wp2_with fail
      clear a0 a1 a2 a3 a4 a5 a6 a7 a8 c0 c1 c2 c3 c4 c5 c6 c7 c8
      
      refine (HM.out _).mono ?_
      rintro e V3 ⟨rfl, hb⟩
      replace bP := bP.below hb
      replace bQ := bQ.below hb
      replace hl := hl.trans (hb.mono hl.size)
      clear hb
      obtain ⟨a0, a1, a2, a3, a4, a5, a6, a7, a8⟩ := cells9 bP
      obtain ⟨c0, c1, c2, c3, c4, c5, c6, c7, c8⟩ := cells9 bQ
      go_wp2_with fail
      clear a0 a1 a2 a3 a4 a5 a6 a7 a8 c0 c1 c2 c3 c4 c5 c6 c7 c8
      go_ret
      exact ⟨ret_b (HE2.out.symm), hl⟩

    · cases hx : (x == 2)
      · rw [hx] at HE
        cases O
        · have HE2 : Hid (M = !(y == 0)) := by show _ = _; rw [HE.out]; simp
          clear HE

          go_enter Tryz.func28, Tryz.ntmps28
          go_wp2_with fail
          generalize (w.alloc (.cells #[.string p.p, .int .i64 p.b, .bool p.m, .bool p.t, .int .i64 p.k, .int .i64 p.o, .int .i64 p.s, .int .i64 p.l, .int .i64 p.v] 47)).alloc (.cells #[.string q.p, .int .i64 q.b, .bool q.m, .bool q.t, .int .i64 q.k, .int .i64 q.o, .int .i64 q.s, .int .i64 q.l, .int .i64 q.v] 47) = V at *
          
          refine (HX.out _).mono ?_
          rintro e V0 ⟨rfl, hb⟩
          replace bP := bP.below hb
          replace bQ := bQ.below hb
          replace hl := hl.trans (hb.mono hl.size)
          clear hb
          obtain ⟨a0, a1, a2, a3, a4, a5, a6, a7, a8⟩ := cells9 bP
          obtain ⟨c0, c1, c2, c3, c4, c5, c6, c7, c8⟩ := cells9 bQ
          go_wp2_with fail
          clear a0 a1 a2 a3 a4 a5 a6 a7 a8 c0 c1 c2 c3 c4 c5 c6 c7 c8
          
          refine (HY.out _).mono ?_
          rintro e V1 ⟨rfl, hb⟩
          replace bP := bP.below hb
          replace bQ := bQ.below hb
          replace hl := hl.trans (hb.mono hl.size)
          clear hb
          obtain ⟨a0, a1, a2, a3, a4, a5, a6, a7, a8⟩ := cells9 bP
          obtain ⟨c0, c1, c2, c3, c4, c5, c6, c7, c8⟩ := cells9 bQ
          go_wp2_with fail
          clear a0 a1 a2 a3 a4 a5 a6 a7 a8 c0 c1 c2 c3 c4 c5 c6 c7 c8
          
          refine (HU.out _).mono ?_
          rintro e V2 ⟨rfl, hb⟩
          replace bP := bP.below hb
          replace bQ := bQ.below hb
          replace hl := hl.trans (hb.mono hl.size)
          clear hb
          obtain ⟨a0, a1, a2, a3, a4, a5, a6, a7, a8⟩ := cells9 bP
          obtain ⟨c0, c1, c2, c3, c4, c5, c6, c7, c8⟩ := cells9 bQ
          go_wp2_with fail
          clear a0 a1 a2 a3 a4 a5 a6 a7 a8 c0 c1 c2 c3 c4 c5 c6 c7 c8
          
          refine (HM.out _).mono ?_
          rintro e V3 ⟨rfl, hb⟩
          replace bP := bP.below hb
          replace bQ := bQ.below hb
          replace hl := hl.trans (hb.mono hl.size)
          clear hb
          obtain ⟨a0, a1, a2, a3, a4, a5, a6, a7, a8⟩ := cells9 bP
          obtain ⟨c0, c1, c2, c3, c4, c5, c6, c7, c8⟩ := cells9 bQ
          go_wp2_with fail
          clear a0 a1 a2 a3 a4 a5 a6 a7 a8 c0 c1 c2 c3 c4 c5 c6 c7 c8
          
          refine (HO.out _).mono ?_
          rintro e V4 ⟨rfl, hb⟩
          replace bP := bP.below hb
          replace bQ := bQ.below hb
          replace hl := hl.trans (hb.mono hl.size)
          clear hb
          obtain ⟨a0, a1, a2, a3, a4, a5, a6, a7, a8⟩ := cells9 bP
          obtain ⟨c0, c1, c2, c3, c4, c5, c6, c7, c8⟩ := cells9 bQ
          go_wp2_with fail
          clear a0 a1 a2 a3 a4 a5 a6 a7 a8 c0 c1 c2 c3 c4 c5 c6 c7 c8
          go_ret
          exact ⟨ret_b (by rw [HE2.out]; simp [bne]), hl⟩

        · have HE2 : Hid (M = true) := by show _ = _; rw [HE.out]; simp
          clear HE

          go_enter Tryz.func28, Tryz.ntmps28
          go_wp2_with fail
          generalize (w.alloc (.cells #[.string p.p, .int .i64 p.b, .bool p.m, .bool p.t, .int .i64 p.k, .int .i64 p.o, .int .i64 p.s, .int .i64 p.l, .int .i64 p.v] 47)).alloc (.cells #[.string q.p, .int .i64 q.b, .bool q.m, .bool q.t, .int .i64 q.k, .int .i64 q.o, .int .i64 q.s, .int .i64 q.l, .int .i64 q.v] 47) = V at *
          
          refine (HX.out _).mono ?_
          rintro e V0 ⟨rfl, hb⟩
          replace bP := bP.below hb
          replace bQ := bQ.below hb
          replace hl := hl.trans (hb.mono hl.size)
          clear hb
          obtain ⟨a0, a1, a2, a3, a4, a5, a6, a7, a8⟩ := cells9 bP
          obtain ⟨c0, c1, c2, c3, c4, c5, c6, c7, c8⟩ := cells9 bQ
          go_wp2_with fail
          clear a0 a1 a2 a3 a4 a5 a6 a7 a8 c0 c1 c2 c3 c4 c5 c6 c7 c8
          
          refine (HY.out _).mono ?_
          rintro e V1 ⟨rfl, hb⟩
          replace bP := bP.below hb
          replace bQ := bQ.below hb
          replace hl := hl.trans (hb.mono hl.size)
          clear hb
          obtain ⟨a0, a1, a2, a3, a4, a5, a6, a7, a8⟩ := cells9 bP
          obtain ⟨c0, c1, c2, c3, c4, c5, c6, c7, c8⟩ := cells9 bQ
          go_wp2_with fail
          clear a0 a1 a2 a3 a4 a5 a6 a7 a8 c0 c1 c2 c3 c4 c5 c6 c7 c8
          
          refine (HU.out _).mono ?_
          rintro e V2 ⟨rfl, hb⟩
          replace bP := bP.below hb
          replace bQ := bQ.below hb
          replace hl := hl.trans (hb.mono hl.size)
          clear hb
          obtain ⟨a0, a1, a2, a3, a4, a5, a6, a7, a8⟩ := cells9 bP
          obtain ⟨c0, c1, c2, c3, c4, c5, c6, c7, c8⟩ := cells9 bQ
          go_wp2_with fail
          clear a0 a1 a2 a3 a4 a5 a6 a7 a8 c0 c1 c2 c3 c4 c5 c6 c7 c8
          
          refine (HM.out _).mono ?_
          rintro e V3 ⟨rfl, hb⟩
          replace bP := bP.below hb
          replace bQ := bQ.below hb
          replace hl := hl.trans (hb.mono hl.size)
          clear hb
          obtain ⟨a0, a1, a2, a3, a4, a5, a6, a7, a8⟩ := cells9 bP
          obtain ⟨c0, c1, c2, c3, c4, c5, c6, c7, c8⟩ := cells9 bQ
          go_wp2_with fail
          clear a0 a1 a2 a3 a4 a5 a6 a7 a8 c0 c1 c2 c3 c4 c5 c6 c7 c8
          
          refine (HO.out _).mono ?_
          rintro e V4 ⟨rfl, hb⟩
          replace bP := bP.below hb
          replace bQ := bQ.below hb
          replace hl := hl.trans (hb.mono hl.size)
          clear hb
          obtain ⟨a0, a1, a2, a3, a4, a5, a6, a7, a8⟩ := cells9 bP
          obtain ⟨c0, c1, c2, c3, c4, c5, c6, c7, c8⟩ := cells9 bQ
          go_wp2_with fail
          clear a0 a1 a2 a3 a4 a5 a6 a7 a8 c0 c1 c2 c3 c4 c5 c6 c7 c8
          go_ret
          exact ⟨ret_b (HE2.out.symm), hl⟩

      · rw [hx] at HE
        have HE2 : Hid (M = false) := by show _ = _; rw [HE.out]; simp
        clear HE

        go_enter Tryz.func28, Tryz.ntmps28
        go_wp2_with fail
        generalize (w.alloc (.cells #[.string p.p, .int .i64 p.b, .bool p.m, .bool p.t, .int .i64 p.k, .int .i64 p.o, .int .i64 p.s, .int .i64 p.l, .int .i64 p.v] 47)).alloc (.cells #[.string q.p, .int .i64 q.b, .bool q.m, .bool q.t, .int .i64 q.k, .int .i64 q.o, .int .i64 q.s, .int .i64 q.l, .int .i64 q.v] 47) = V at *
        
        refine (HX.out _).mono ?_
        rintro e V0 ⟨rfl, hb⟩
        replace bP := bP.below hb
        replace bQ := bQ.below hb
        replace hl := hl.trans (hb.mono hl.size)
        clear hb
        obtain ⟨a0, a1, a2, a3, a4, a5, a6, a7, a8⟩ := cells9 bP
        obtain ⟨c0, c1, c2, c3, c4, c5, c6, c7, c8⟩ := cells9 bQ
        go_wp2_with fail
        clear a0 a1 a2 a3 a4 a5 a6 a7 a8 c0 c1 c2 c3 c4 c5 c6 c7 c8
        
        refine (HY.out _).mono ?_
        rintro e V1 ⟨rfl, hb⟩
        replace bP := bP.below hb
        replace bQ := bQ.below hb
        replace hl := hl.trans (hb.mono hl.size)
        clear hb
        obtain ⟨a0, a1, a2, a3, a4, a5, a6, a7, a8⟩ := cells9 bP
        obtain ⟨c0, c1, c2, c3, c4, c5, c6, c7, c8⟩ := cells9 bQ
        go_wp2_with fail
        clear a0 a1 a2 a3 a4 a5 a6 a7 a8 c0 c1 c2 c3 c4 c5 c6 c7 c8
        
        refine (HU.out _).mono ?_
        rintro e V2 ⟨rfl, hb⟩
        replace bP := bP.below hb
        replace bQ := bQ.below hb
        replace hl := hl.trans (hb.mono hl.size)
        clear hb
        obtain ⟨a0, a1, a2, a3, a4, a5, a6, a7, a8⟩ := cells9 bP
        obtain ⟨c0, c1, c2, c3, c4, c5, c6, c7, c8⟩ := cells9 bQ
        go_wp2_with fail
        clear a0 a1 a2 a3 a4 a5 a6 a7 a8 c0 c1 c2 c3 c4 c5 c6 c7 c8
        
        refine (HM.out _).mono ?_
        rintro e V3 ⟨rfl, hb⟩
        replace bP := bP.below hb
        replace bQ := bQ.below hb
        replace hl := hl.trans (hb.mono hl.size)
        clear hb
        obtain ⟨a0, a1, a2, a3, a4, a5, a6, a7, a8⟩ := cells9 bP
        obtain ⟨c0, c1, c2, c3, c4, c5, c6, c7, c8⟩ := cells9 bQ
        go_wp2_with fail
        clear a0 a1 a2 a3 a4 a5 a6 a7 a8 c0 c1 c2 c3 c4 c5 c6 c7 c8
        go_ret
        exact ⟨ret_b (HE2.out.symm), hl⟩


set_option maxRecDepth 100000 in
set_option maxHeartbeats 1000000 in
theorem lowerR_any (p q : CV) (hp : p.p.size ≤ 9223372036854775807) (hq : q.p.size ≤ 9223372036854775807) (w : World) :
    Calls Tryz.prog 29 #[p.val, q.val] w fun e w' => e = .returned (.bool (lowB p q)) ∧ Below w.heap.size w w' := by
  obtain ⟨M, hM⟩ : ∃ M, M = lowB p q := ⟨_, rfl⟩
  rw [← hM]
  have hl : Below w.heap.size w ((w.alloc (.cells #[.string p.p, .int .i64 p.b, .bool p.m, .bool p.t, .int .i64 p.k, .int .i64 p.o, .int .i64 p.s, .int .i64 p.l, .int .i64 p.v] 47)).alloc (.cells #[.string q.p, .int .i64 q.b, .bool q.m, .bool q.t, .int .i64 q.k, .int .i64 q.o, .int .i64 q.s, .int .i64 q.l, .int .i64 q.v] 47)) := (by repeat (first | exact Below.refl _ _ | refine Below.alloc ?_ (by simp) _ | refine Below.setCell ?_ (by simp) _ | refine Below.drew ?_))
  have bP : Blk ((w.alloc (.cells #[.string p.p, .int .i64 p.b, .bool p.m, .bool p.t, .int .i64 p.k, .int .i64 p.o, .int .i64 p.s, .int .i64 p.l, .int .i64 p.v] 47)).alloc (.cells #[.string q.p, .int .i64 q.b, .bool q.m, .bool q.t, .int .i64 q.k, .int .i64 q.o, .int .i64 q.s, .int .i64 q.l, .int .i64 q.v] 47)) w.heap.size 47 p.cells.toArray := (Blk.new w 47 #[.string p.p, .int .i64 p.b, .bool p.m, .bool p.t, .int .i64 p.k, .int .i64 p.o, .int .i64 p.s, .int .i64 p.l, .int .i64 p.v]).alloc _
  have bQ : Blk ((w.alloc (.cells #[.string p.p, .int .i64 p.b, .bool p.m, .bool p.t, .int .i64 p.k, .int .i64 p.o, .int .i64 p.s, .int .i64 p.l, .int .i64 p.v] 47)).alloc (.cells #[.string q.p, .int .i64 q.b, .bool q.m, .bool q.t, .int .i64 q.k, .int .i64 q.o, .int .i64 q.s, .int .i64 q.l, .int .i64 q.v] 47)) (w.heap.size + 1) 47 q.cells.toArray := by
    have h := Blk.new (w.alloc (.cells #[.string p.p, .int .i64 p.b, .bool p.m, .bool p.t, .int .i64 p.k, .int .i64 p.o, .int .i64 p.s, .int .i64 p.l, .int .i64 p.v] 47)) 47 #[.string q.p, .int .i64 q.b, .bool q.m, .bool q.t, .int .i64 q.k, .int .i64 q.o, .int .i64 q.s, .int .i64 q.l, .int .i64 q.v]
    rw [World.size_alloc] at h
    exact h

  have HX := Lib.hid (fun w => resultR_any p.p p.b p.m p.t p.k p.o p.s p.l p.v w)
  have HY := Lib.hid (fun w => resultR_any q.p q.b q.m q.t q.k q.o q.s q.l q.v w)
  have HU := Lib.hid (fun w => refUnder_any q.p p.p hq hp w)
  have HM := Lib.hid (fun w => movesR_any q.p q.b q.m q.t q.k q.o q.s q.l q.v w)
  have HO := Lib.hid (fun w => openR_any p.p p.b p.m p.t p.k p.o p.s p.l p.v w)
  unfold lowB CV.und CV.res at hM
  generalize resK p.b p.k p.o p.v = x at *
  generalize resK q.b q.k q.o q.v = y at *
  generalize resS p.v = z at *
  generalize resS q.v = u at *
  generalize underB (tl q.p) (tl p.p) = U at *
  generalize movesB q.v = S at *
  generalize openB p.v = O at *
  have HE := Lib.hid hM
  clear hM
  cases U
  · have HE2 : Hid (M = false) := by show _ = _; rw [HE.out]; simp
    clear HE

    go_enter Tryz.func29, Tryz.ntmps29
    go_wp2_with fail
    generalize (w.alloc (.cells #[.string p.p, .int .i64 p.b, .bool p.m, .bool p.t, .int .i64 p.k, .int .i64 p.o, .int .i64 p.s, .int .i64 p.l, .int .i64 p.v] 47)).alloc (.cells #[.string q.p, .int .i64 q.b, .bool q.m, .bool q.t, .int .i64 q.k, .int .i64 q.o, .int .i64 q.s, .int .i64 q.l, .int .i64 q.v] 47) = V at *
    
    refine (HX.out _).mono ?_
    rintro e V0 ⟨rfl, hb⟩
    replace bP := bP.below hb
    replace bQ := bQ.below hb
    replace hl := hl.trans (hb.mono hl.size)
    clear hb
    obtain ⟨a0, a1, a2, a3, a4, a5, a6, a7, a8⟩ := cells9 bP
    obtain ⟨c0, c1, c2, c3, c4, c5, c6, c7, c8⟩ := cells9 bQ
    go_wp2_with fail
    clear a0 a1 a2 a3 a4 a5 a6 a7 a8 c0 c1 c2 c3 c4 c5 c6 c7 c8
    
    refine (HY.out _).mono ?_
    rintro e V1 ⟨rfl, hb⟩
    replace bP := bP.below hb
    replace bQ := bQ.below hb
    replace hl := hl.trans (hb.mono hl.size)
    clear hb
    obtain ⟨a0, a1, a2, a3, a4, a5, a6, a7, a8⟩ := cells9 bP
    obtain ⟨c0, c1, c2, c3, c4, c5, c6, c7, c8⟩ := cells9 bQ
    go_wp2_with fail
    clear a0 a1 a2 a3 a4 a5 a6 a7 a8 c0 c1 c2 c3 c4 c5 c6 c7 c8
    
    refine (HU.out _).mono ?_
    rintro e V2 ⟨rfl, hb⟩
    replace bP := bP.below hb
    replace bQ := bQ.below hb
    replace hl := hl.trans (hb.mono hl.size)
    clear hb
    obtain ⟨a0, a1, a2, a3, a4, a5, a6, a7, a8⟩ := cells9 bP
    obtain ⟨c0, c1, c2, c3, c4, c5, c6, c7, c8⟩ := cells9 bQ
    go_wp2_with fail
    clear a0 a1 a2 a3 a4 a5 a6 a7 a8 c0 c1 c2 c3 c4 c5 c6 c7 c8
    go_ret
    exact ⟨ret_b (HE2.out.symm), hl⟩

  · cases S
    · have HE2 : Hid (M = false) := by show _ = _; rw [HE.out]; simp
      clear HE

      go_enter Tryz.func29, Tryz.ntmps29
      go_wp2_with fail
      generalize (w.alloc (.cells #[.string p.p, .int .i64 p.b, .bool p.m, .bool p.t, .int .i64 p.k, .int .i64 p.o, .int .i64 p.s, .int .i64 p.l, .int .i64 p.v] 47)).alloc (.cells #[.string q.p, .int .i64 q.b, .bool q.m, .bool q.t, .int .i64 q.k, .int .i64 q.o, .int .i64 q.s, .int .i64 q.l, .int .i64 q.v] 47) = V at *
      
      refine (HX.out _).mono ?_
      rintro e V0 ⟨rfl, hb⟩
      replace bP := bP.below hb
      replace bQ := bQ.below hb
      replace hl := hl.trans (hb.mono hl.size)
      clear hb
      obtain ⟨a0, a1, a2, a3, a4, a5, a6, a7, a8⟩ := cells9 bP
      obtain ⟨c0, c1, c2, c3, c4, c5, c6, c7, c8⟩ := cells9 bQ
      go_wp2_with fail
      clear a0 a1 a2 a3 a4 a5 a6 a7 a8 c0 c1 c2 c3 c4 c5 c6 c7 c8
      
      refine (HY.out _).mono ?_
      rintro e V1 ⟨rfl, hb⟩
      replace bP := bP.below hb
      replace bQ := bQ.below hb
      replace hl := hl.trans (hb.mono hl.size)
      clear hb
      obtain ⟨a0, a1, a2, a3, a4, a5, a6, a7, a8⟩ := cells9 bP
      obtain ⟨c0, c1, c2, c3, c4, c5, c6, c7, c8⟩ := cells9 bQ
      go_wp2_with fail
      clear a0 a1 a2 a3 a4 a5 a6 a7 a8 c0 c1 c2 c3 c4 c5 c6 c7 c8
      
      refine (HU.out _).mono ?_
      rintro e V2 ⟨rfl, hb⟩
      replace bP := bP.below hb
      replace bQ := bQ.below hb
      replace hl := hl.trans (hb.mono hl.size)
      clear hb
      obtain ⟨a0, a1, a2, a3, a4, a5, a6, a7, a8⟩ := cells9 bP
      obtain ⟨c0, c1, c2, c3, c4, c5, c6, c7, c8⟩ := cells9 bQ
      go_wp2_with fail
      clear a0 a1 a2 a3 a4 a5 a6 a7 a8 c0 c1 c2 c3 c4 c5 c6 c7 c8
      
      refine (HM.out _).mono ?_
      rintro e V3 ⟨rfl, hb⟩
      replace bP := bP.below hb
      replace bQ := bQ.below hb
      replace hl := hl.trans (hb.mono hl.size)
      clear hb
      obtain ⟨a0, a1, a2, a3, a4, a5, a6, a7, a8⟩ := cells9 bP
      obtain ⟨c0, c1, c2, c3, c4, c5, c6, c7, c8⟩ := cells9 bQ
      go_wp2_with fail
      clear a0 a1 a2 a3 a4 a5 a6 a7 a8 c0 c1 c2 c3 c4 c5 c6 c7 c8
      go_ret
      exact ⟨ret_b (HE2.out.symm), hl⟩

    · cases O
      · cases hy : (y == 0)
        · have hy2 : (y != 0) = true := by simpa [bne] using hy
          have HE2 : Hid (M = !(x == 2)) := by show _ = _; rw [HE.out, hy]; simp
          clear HE

          go_enter Tryz.func29, Tryz.ntmps29
          go_wp2_with fail
          generalize (w.alloc (.cells #[.string p.p, .int .i64 p.b, .bool p.m, .bool p.t, .int .i64 p.k, .int .i64 p.o, .int .i64 p.s, .int .i64 p.l, .int .i64 p.v] 47)).alloc (.cells #[.string q.p, .int .i64 q.b, .bool q.m, .bool q.t, .int .i64 q.k, .int .i64 q.o, .int .i64 q.s, .int .i64 q.l, .int .i64 q.v] 47) = V at *
          
          refine (HX.out _).mono ?_
          rintro e V0 ⟨rfl, hb⟩
          replace bP := bP.below hb
          replace bQ := bQ.below hb
          replace hl := hl.trans (hb.mono hl.size)
          clear hb
          obtain ⟨a0, a1, a2, a3, a4, a5, a6, a7, a8⟩ := cells9 bP
          obtain ⟨c0, c1, c2, c3, c4, c5, c6, c7, c8⟩ := cells9 bQ
          go_wp2_with fail
          clear a0 a1 a2 a3 a4 a5 a6 a7 a8 c0 c1 c2 c3 c4 c5 c6 c7 c8
          
          refine (HY.out _).mono ?_
          rintro e V1 ⟨rfl, hb⟩
          replace bP := bP.below hb
          replace bQ := bQ.below hb
          replace hl := hl.trans (hb.mono hl.size)
          clear hb
          obtain ⟨a0, a1, a2, a3, a4, a5, a6, a7, a8⟩ := cells9 bP
          obtain ⟨c0, c1, c2, c3, c4, c5, c6, c7, c8⟩ := cells9 bQ
          go_wp2_with fail
          clear a0 a1 a2 a3 a4 a5 a6 a7 a8 c0 c1 c2 c3 c4 c5 c6 c7 c8
          
          refine (HU.out _).mono ?_
          rintro e V2 ⟨rfl, hb⟩
          replace bP := bP.below hb
          replace bQ := bQ.below hb
          replace hl := hl.trans (hb.mono hl.size)
          clear hb
          obtain ⟨a0, a1, a2, a3, a4, a5, a6, a7, a8⟩ := cells9 bP
          obtain ⟨c0, c1, c2, c3, c4, c5, c6, c7, c8⟩ := cells9 bQ
          go_wp2_with fail
          clear a0 a1 a2 a3 a4 a5 a6 a7 a8 c0 c1 c2 c3 c4 c5 c6 c7 c8
          
          refine (HM.out _).mono ?_
          rintro e V3 ⟨rfl, hb⟩
          replace bP := bP.below hb
          replace bQ := bQ.below hb
          replace hl := hl.trans (hb.mono hl.size)
          clear hb
          obtain ⟨a0, a1, a2, a3, a4, a5, a6, a7, a8⟩ := cells9 bP
          obtain ⟨c0, c1, c2, c3, c4, c5, c6, c7, c8⟩ := cells9 bQ
          go_wp2_with fail
          clear a0 a1 a2 a3 a4 a5 a6 a7 a8 c0 c1 c2 c3 c4 c5 c6 c7 c8
          
          refine (HO.out _).mono ?_
          rintro e V4 ⟨rfl, hb⟩
          replace bP := bP.below hb
          replace bQ := bQ.below hb
          replace hl := hl.trans (hb.mono hl.size)
          clear hb
          obtain ⟨a0, a1, a2, a3, a4, a5, a6, a7, a8⟩ := cells9 bP
          obtain ⟨c0, c1, c2, c3, c4, c5, c6, c7, c8⟩ := cells9 bQ
          go_wp2_with fail
          clear a0 a1 a2 a3 a4 a5 a6 a7 a8 c0 c1 c2 c3 c4 c5 c6 c7 c8
          go_ret
          exact ⟨ret_b (by rw [HE2.out]; simp [bne]), hl⟩

        · have hy2 : (y != 0) = false := by simpa [bne] using hy
          have HE2 : Hid (M = false) := by show _ = _; rw [HE.out, hy]; simp
          clear HE

          go_enter Tryz.func29, Tryz.ntmps29
          go_wp2_with fail
          generalize (w.alloc (.cells #[.string p.p, .int .i64 p.b, .bool p.m, .bool p.t, .int .i64 p.k, .int .i64 p.o, .int .i64 p.s, .int .i64 p.l, .int .i64 p.v] 47)).alloc (.cells #[.string q.p, .int .i64 q.b, .bool q.m, .bool q.t, .int .i64 q.k, .int .i64 q.o, .int .i64 q.s, .int .i64 q.l, .int .i64 q.v] 47) = V at *
          
          refine (HX.out _).mono ?_
          rintro e V0 ⟨rfl, hb⟩
          replace bP := bP.below hb
          replace bQ := bQ.below hb
          replace hl := hl.trans (hb.mono hl.size)
          clear hb
          obtain ⟨a0, a1, a2, a3, a4, a5, a6, a7, a8⟩ := cells9 bP
          obtain ⟨c0, c1, c2, c3, c4, c5, c6, c7, c8⟩ := cells9 bQ
          go_wp2_with fail
          clear a0 a1 a2 a3 a4 a5 a6 a7 a8 c0 c1 c2 c3 c4 c5 c6 c7 c8
          
          refine (HY.out _).mono ?_
          rintro e V1 ⟨rfl, hb⟩
          replace bP := bP.below hb
          replace bQ := bQ.below hb
          replace hl := hl.trans (hb.mono hl.size)
          clear hb
          obtain ⟨a0, a1, a2, a3, a4, a5, a6, a7, a8⟩ := cells9 bP
          obtain ⟨c0, c1, c2, c3, c4, c5, c6, c7, c8⟩ := cells9 bQ
          go_wp2_with fail
          clear a0 a1 a2 a3 a4 a5 a6 a7 a8 c0 c1 c2 c3 c4 c5 c6 c7 c8
          
          refine (HU.out _).mono ?_
          rintro e V2 ⟨rfl, hb⟩
          replace bP := bP.below hb
          replace bQ := bQ.below hb
          replace hl := hl.trans (hb.mono hl.size)
          clear hb
          obtain ⟨a0, a1, a2, a3, a4, a5, a6, a7, a8⟩ := cells9 bP
          obtain ⟨c0, c1, c2, c3, c4, c5, c6, c7, c8⟩ := cells9 bQ
          go_wp2_with fail
          clear a0 a1 a2 a3 a4 a5 a6 a7 a8 c0 c1 c2 c3 c4 c5 c6 c7 c8
          
          refine (HM.out _).mono ?_
          rintro e V3 ⟨rfl, hb⟩
          replace bP := bP.below hb
          replace bQ := bQ.below hb
          replace hl := hl.trans (hb.mono hl.size)
          clear hb
          obtain ⟨a0, a1, a2, a3, a4, a5, a6, a7, a8⟩ := cells9 bP
          obtain ⟨c0, c1, c2, c3, c4, c5, c6, c7, c8⟩ := cells9 bQ
          go_wp2_with fail
          clear a0 a1 a2 a3 a4 a5 a6 a7 a8 c0 c1 c2 c3 c4 c5 c6 c7 c8
          
          refine (HO.out _).mono ?_
          rintro e V4 ⟨rfl, hb⟩
          replace bP := bP.below hb
          replace bQ := bQ.below hb
          replace hl := hl.trans (hb.mono hl.size)
          clear hb
          obtain ⟨a0, a1, a2, a3, a4, a5, a6, a7, a8⟩ := cells9 bP
          obtain ⟨c0, c1, c2, c3, c4, c5, c6, c7, c8⟩ := cells9 bQ
          go_wp2_with fail
          clear a0 a1 a2 a3 a4 a5 a6 a7 a8 c0 c1 c2 c3 c4 c5 c6 c7 c8
          go_ret
          exact ⟨ret_b (HE2.out.symm), hl⟩

      · have HE2 : Hid (M = true) := by show _ = _; rw [HE.out]; simp
        clear HE

        go_enter Tryz.func29, Tryz.ntmps29
        go_wp2_with fail
        generalize (w.alloc (.cells #[.string p.p, .int .i64 p.b, .bool p.m, .bool p.t, .int .i64 p.k, .int .i64 p.o, .int .i64 p.s, .int .i64 p.l, .int .i64 p.v] 47)).alloc (.cells #[.string q.p, .int .i64 q.b, .bool q.m, .bool q.t, .int .i64 q.k, .int .i64 q.o, .int .i64 q.s, .int .i64 q.l, .int .i64 q.v] 47) = V at *
        
        refine (HX.out _).mono ?_
        rintro e V0 ⟨rfl, hb⟩
        replace bP := bP.below hb
        replace bQ := bQ.below hb
        replace hl := hl.trans (hb.mono hl.size)
        clear hb
        obtain ⟨a0, a1, a2, a3, a4, a5, a6, a7, a8⟩ := cells9 bP
        obtain ⟨c0, c1, c2, c3, c4, c5, c6, c7, c8⟩ := cells9 bQ
        go_wp2_with fail
        clear a0 a1 a2 a3 a4 a5 a6 a7 a8 c0 c1 c2 c3 c4 c5 c6 c7 c8
        
        refine (HY.out _).mono ?_
        rintro e V1 ⟨rfl, hb⟩
        replace bP := bP.below hb
        replace bQ := bQ.below hb
        replace hl := hl.trans (hb.mono hl.size)
        clear hb
        obtain ⟨a0, a1, a2, a3, a4, a5, a6, a7, a8⟩ := cells9 bP
        obtain ⟨c0, c1, c2, c3, c4, c5, c6, c7, c8⟩ := cells9 bQ
        go_wp2_with fail
        clear a0 a1 a2 a3 a4 a5 a6 a7 a8 c0 c1 c2 c3 c4 c5 c6 c7 c8
        
        refine (HU.out _).mono ?_
        rintro e V2 ⟨rfl, hb⟩
        replace bP := bP.below hb
        replace bQ := bQ.below hb
        replace hl := hl.trans (hb.mono hl.size)
        clear hb
        obtain ⟨a0, a1, a2, a3, a4, a5, a6, a7, a8⟩ := cells9 bP
        obtain ⟨c0, c1, c2, c3, c4, c5, c6, c7, c8⟩ := cells9 bQ
        go_wp2_with fail
        clear a0 a1 a2 a3 a4 a5 a6 a7 a8 c0 c1 c2 c3 c4 c5 c6 c7 c8
        
        refine (HM.out _).mono ?_
        rintro e V3 ⟨rfl, hb⟩
        replace bP := bP.below hb
        replace bQ := bQ.below hb
        replace hl := hl.trans (hb.mono hl.size)
        clear hb
        obtain ⟨a0, a1, a2, a3, a4, a5, a6, a7, a8⟩ := cells9 bP
        obtain ⟨c0, c1, c2, c3, c4, c5, c6, c7, c8⟩ := cells9 bQ
        go_wp2_with fail
        clear a0 a1 a2 a3 a4 a5 a6 a7 a8 c0 c1 c2 c3 c4 c5 c6 c7 c8
        
        refine (HO.out _).mono ?_
        rintro e V4 ⟨rfl, hb⟩
        replace bP := bP.below hb
        replace bQ := bQ.below hb
        replace hl := hl.trans (hb.mono hl.size)
        clear hb
        obtain ⟨a0, a1, a2, a3, a4, a5, a6, a7, a8⟩ := cells9 bP
        obtain ⟨c0, c1, c2, c3, c4, c5, c6, c7, c8⟩ := cells9 bQ
        go_wp2_with fail
        clear a0 a1 a2 a3 a4 a5 a6 a7 a8 c0 c1 c2 c3 c4 c5 c6 c7 c8
        go_ret
        exact ⟨ret_b (HE2.out.symm), hl⟩

end Go.Proofs.YtkeledbgmpienaaGreat

/- Closing changes: whoever is forced to give way, one after the other, whatever the order, there is one end. Plain lists. -/
namespace Go.Proofs.YtkeledbgmpienaaGreat
open Go.RowKit

def CV.conf (x : CV) : CV := { x with v := 5 }
theorem CV.conf_conf (x : CV) : x.conf.conf = x.conf := rfl
/-- a gives way among x -/
def Forced (x : List CV) (a : CV) : Prop := (∃ q ∈ x, upB a q = true) ∨ (∃ p ∈ x, lowB p a = true)
def Closed (x : List CV) : Prop := ∀ a ∈ x, ¬ Forced x a
inductive Turns (l : List CV) : List CV → Prop
  | none : Turns l l
  | turn {p s : List CV} {a : CV} : Turns l (p ++ a :: s) → Forced (p ++ a :: s) a → Turns l (p ++ a.conf :: s)
/-- y is x, but for some that have become conflicts -/
def Le (x y : List CV) : Prop := x.length = y.length ∧ ∀ (i : Nat) (a b : CV), x[i]? = some a → y[i]? = some b → b = a ∨ b = a.conf
def Closes (l x : List CV) : Prop := Turns l x ∧ Closed x

theorem upB_movesB {p q : CV} (h : upB p q = true) : movesB p.v = true := by
  unfold upB at h; simp only [Bool.and_eq_true] at h; exact h.1.1.2
theorem lowB_movesB {p q : CV} (h : lowB p q = true) : movesB q.v = true := by
  unfold lowB at h; simp only [Bool.and_eq_true] at h; exact h.1.2
theorem Forced.movesB {x : List CV} {a : CV} (h : Forced x a) : movesB a.v = true := by
  rcases h with ⟨q, _, h⟩ | ⟨p, _, h⟩
  · exact upB_movesB h
  · exact lowB_movesB h
theorem upB_conf {p q : CV} (h : upB p q = true) : upB p q.conf = true := by
  unfold upB CV.und at h ⊢
  simp only [Bool.and_eq_true] at h
  simp [CV.conf, h.1.1.1, h.1.1.2, openB]
  simpa using h.1.2
theorem lowB_conf {p q : CV} (h : lowB p q = true) : lowB p.conf q = true := by
  unfold lowB CV.und at h ⊢
  simp only [Bool.and_eq_true] at h
  simp [CV.conf, h.1.1, h.1.2, openB]

theorem Le.refl (x : List CV) : Le x x := ⟨rfl, fun i a b h1 h2 => .inl (Option.some.inj (h2.symm.trans h1))⟩
theorem Le.trans {x y z : List CV} (h : Le x y) (k : Le y z) : Le x z := ⟨h.1.trans k.1, fun i a c h1 h3 => by
  have hi : i < y.length := by rw [← h.1]; exact (List.getElem?_eq_some_iff.1 h1).1
  have h2 := List.getElem?_eq_getElem hi
  rcases h.2 i a _ h1 h2 with e | e <;> rcases k.2 i _ c h2 h3 with e' | e'
  · exact .inl (e'.trans e)
  · exact .inr (by rw [e', e])
  · exact .inr (e'.trans e)
  · exact .inr (by rw [e', e, CV.conf_conf])⟩
theorem Le.mem {x y : List CV} (h : Le x y) {q : CV} (hq : q ∈ x) : q ∈ y ∨ q.conf ∈ y := by
  obtain ⟨i, hi⟩ := List.mem_iff_getElem?.1 hq
  have hl : i < y.length := by rw [← h.1]; exact (List.getElem?_eq_some_iff.1 hi).1
  rcases h.2 i q _ hi (List.getElem?_eq_getElem hl) with e | e
  · exact .inl (e ▸ List.getElem_mem hl)
  · exact .inr (e ▸ List.getElem_mem hl)
theorem Forced.le {x y : List CV} {a : CV} (h : Forced x a) (k : Le x y) : Forced y a := by
  rcases h with ⟨q, hq, h⟩ | ⟨p, hp, h⟩
  · rcases k.mem hq with hy | hy
    · exact .inl ⟨q, hy, h⟩
    · exact .inl ⟨_, hy, upB_conf h⟩
  · rcases k.mem hp with hy | hy
    · exact .inr ⟨p, hy, h⟩
    · exact .inr ⟨_, hy, lowB_conf h⟩
theorem Le.step (p s : List CV) (a : CV) : Le (p ++ a :: s) (p ++ a.conf :: s) := ⟨by simp, fun i x y h1 h2 => by
  rcases Nat.lt_trichotomy i p.length with h | h | h
  · rw [List.getElem?_append_left h] at h1 h2; exact .inl (Option.some.inj (h2.symm.trans h1))
  · subst h; simp at h1 h2; subst h1 h2; exact .inr rfl
  · rw [List.getElem?_append_right (by omega)] at h1 h2
    rw [show i - p.length = (i - p.length - 1) + 1 by omega] at h1 h2
    simp at h1 h2
    exact .inl (Option.some.inj (h2.symm.trans h1))⟩
theorem Turns.le {l x : List CV} (h : Turns l x) : Le l x := by
  induction h with
  | none => exact Le.refl _
  | turn _ _ ih => exact ih.trans (Le.step _ _ _)
theorem Le.put {p s y : List CV} {a : CV} (h : Le (p ++ a :: s) y) (hy : Closed y) (hf : Forced (p ++ a :: s) a) : Le (p ++ a.conf :: s) y := by
  have hl : p.length < y.length := by rw [← h.1]; simp
  have hb := h.2 p.length a y[p.length] (by simp) (List.getElem?_eq_getElem hl)
  have hf' := hf.le h
  have hne : y[p.length] = a.conf := by
    rcases hb with e | e
    · exact absurd (e ▸ hf') (hy _ (List.getElem_mem hl))
    · exact e
  refine ⟨by rw [← h.1]; simp, fun i x z h1 h2 => ?_⟩
  rcases Nat.lt_trichotomy i p.length with hi | hi | hi
  · exact h.2 i x z (by rw [List.getElem?_append_left hi] at h1 ⊢; exact h1) h2
  · subst hi
    simp at h1
    subst h1
    rw [List.getElem?_eq_getElem hl, hne] at h2
    exact .inl (Option.some.inj h2).symm
  · refine h.2 i x z ?_ h2
    rw [List.getElem?_append_right (by omega)] at h1 ⊢
    rw [show i - p.length = (i - p.length - 1) + 1 by omega] at h1 ⊢
    simpa using h1
theorem Closes.refl {l : List CV} (h : Closed l) : Closes l l := ⟨.none, h⟩
theorem Forced.perm {x y : List CV} {a : CV} (h : Forced x a) (k : ∀ q, q ∈ x → q ∈ y) : Forced y a := by
  rcases h with ⟨q, hq, h⟩ | ⟨p, hp, h⟩
  · exact .inl ⟨q, k q hq, h⟩
  · exact .inr ⟨p, k p hp, h⟩
theorem Turns.reverse {l x : List CV} (h : Turns l x) : Turns l.reverse x.reverse := by
  induction h with
  | none => exact .none
  | @turn p s a _ hf ih =>
    have e : ∀ b : CV, (p ++ b :: s).reverse = s.reverse ++ b :: p.reverse := fun b => by simp
    rw [e] at ih ⊢
    exact .turn ih (hf.perm (fun q hq => by rw [← e]; exact List.mem_reverse.2 hq))
theorem Closed.reverse {x : List CV} (h : Closed x) : Closed x.reverse := fun a ha hf =>
  h a (List.mem_reverse.1 ha) (hf.perm (fun q hq => List.mem_reverse.1 hq))
theorem Closes.reverse {l x : List CV} (h : Closes l x) : Closes l.reverse x.reverse := ⟨h.1.reverse, h.2.reverse⟩

/-- how many move -/
def mv (x : List CV) : Nat := x.countP (fun a => movesB a.v)
theorem mv_conf (p s : List CV) (a : CV) (h : movesB a.v = true) : mv (p ++ a.conf :: s) < mv (p ++ a :: s) := by
  unfold mv
  rw [List.countP_append, List.countP_append, List.countP_cons, List.countP_cons]
  have h5 : movesB a.conf.v = false := rfl
  simp only [h, h5]
  simp
theorem Le.mv_le : ∀ {x y : List CV}, Le x y → mv y ≤ mv x
  | [], [], _ => Nat.le_refl _
  | [], _ :: _, h => by have := h.1; simp at this
  | _ :: _, [], h => by have := h.1; simp at this
  | a :: x, b :: y, h => by
    have ht : Le x y := ⟨by simpa using h.1, fun i c d h1 h2 => h.2 (i + 1) c d (by simpa using h1) (by simpa using h2)⟩
    have := Le.mv_le ht
    unfold mv at this ⊢
    rw [List.countP_cons, List.countP_cons]
    rcases h.2 0 a b rfl rfl with e | e
    · subst e; omega
    · subst e
      have : movesB a.conf.v = false := rfl
      simp only [this]
      simp
      omega
theorem set_split {x : List CV} {m : Nat} {a b : CV} (h : x[m]? = some a) : ∃ p s, x = p ++ a :: s ∧ x.set m b = p ++ b :: s := by
  obtain ⟨hm, rfl⟩ := List.getElem?_eq_some_iff.1 h
  refine ⟨x.take m, x.drop (m + 1), ?_, ?_⟩
  · rw [List.getElem_cons_drop, List.take_append_drop]
  · rw [List.set_eq_take_append_cons_drop, if_pos hm]
/-- one who is forced becomes a conflict, where it stands -/
theorem Turns.set {l x : List CV} {m : Nat} {a : CV} (h : Turns l x) (ha : x[m]? = some a) (hf : Forced x a) : Turns l (x.set m a.conf) ∧ mv (x.set m a.conf) < mv x := by
  obtain ⟨p, s, e1, e2⟩ := set_split (b := a.conf) ha
  rw [e2, e1]
  rw [e1] at h hf
  exact ⟨.turn h hf, mv_conf p s a hf.movesB⟩
/-- .. or was one by then -/
theorem Turns.set_le {l o x : List CV} {m : Nat} {a b : CV} (h : Turns l x) (hle : Le o x) (ho : o[m]? = some a) (hx : x[m]? = some b) (hf : Forced o a) :
    Turns l (x.set m b.conf) ∧ Le o (x.set m b.conf) ∧ mv (x.set m b.conf) < mv o := by
  rcases hle.2 m a b ho hx with e | e
  · subst e
    obtain ⟨h1, h2⟩ := h.set hx (hf.le hle)
    refine ⟨h1, ?_, Nat.lt_of_lt_of_le h2 hle.mv_le⟩
    obtain ⟨p, s, e1, e2⟩ := set_split (b := b.conf) hx
    rw [e2]
    rw [e1] at hle
    exact hle.trans (Le.step _ _ _)
  · have e3 : x.set m b.conf = x := by
      apply List.ext_getElem?
      intro i
      rw [List.getElem?_set]
      split
      · rename_i hi; subst hi; rw [hx, e]; have := (List.getElem?_eq_some_iff.1 hx).1; simp [this, CV.conf_conf]
      · rfl
    rw [e3]
    refine ⟨h, hle, ?_⟩
    -- b is a conflict where a moves
    obtain ⟨p, s, e1, e2⟩ := set_split (b := a.conf) ho
    have : Le (o.set m a.conf) x := by
      refine ⟨by rw [List.length_set]; exact hle.1, fun i c d h1 h2 => ?_⟩
      rw [List.getElem?_set] at h1
      split at h1
      · rename_i hi
        subst hi
        have := (List.getElem?_eq_some_iff.1 ho).1
        simp [this] at h1
        rw [hx] at h2
        injection h2 with h2
        exact .inl (by rw [← h2, e, ← h1])
      · exact hle.2 i c d h1 h2
    have h3 := this.mv_le
    have h4 := mv_conf p s a hf.movesB
    rw [e2] at h3
    rw [← e1] at h4
    omega
/-- closed, pair by pair -/
theorem closed_of {x : List CV} (h : ∀ (i k : Nat) (a b : CV), x[i]? = some a → x[k]? = some b → upB a b = false ∧ lowB a b = false) : Closed x := by
  intro a ha hf
  obtain ⟨i, hi⟩ := List.mem_iff_getElem?.1 ha
  rcases hf with ⟨q, hq, hu⟩ | ⟨p, hp, hu⟩
  · obtain ⟨k, hk⟩ := List.mem_iff_getElem?.1 hq
    rw [(h i k _ _ hi hk).1] at hu; cases hu
  · obtain ⟨k, hk⟩ := List.mem_iff_getElem?.1 hp
    rw [(h k i _ _ hk hi).2] at hu; cases hu
theorem Closed.pair {x : List CV} (h : Closed x) {a b : CV} (ha : a ∈ x) (hb : b ∈ x) : upB a b = false ∧ lowB a b = false := by
  constructor
  · cases hu : upB a b with
    | false => rfl
    | true => exact absurd (.inl ⟨b, hb, hu⟩) (h a ha)
  · cases hu : lowB a b with
    | false => rfl
    | true => exact absurd (.inr ⟨a, ha, hu⟩) (h b hb)
end Go.Proofs.YtkeledbgmpienaaGreat

/- == and != of changes. -/
namespace Go.Proofs.YtkeledbgmpienaaGreat
open Go.RowKit

end Go.Proofs.YtkeledbgmpienaaGreat

/- Flat lists of cells. -/
namespace Go.Proofs.YtkeledbgmpienaaGreat
open Go.RowKit

theorem flat_get {α : Type} {f : α → List Value} {k : Nat} (hk : ∀ x, (f x).length = k) : ∀ (l : List α) (i j : Nat) (hi : i < l.length), j < k → (l.flatMap f)[i * k + j]? = (f l[i])[j]?
  | x :: l, 0, j, _, hj => by
    rw [List.flatMap_cons, List.getElem?_append_left (by rw [hk]; omega)]
    simp
  | x :: l, i + 1, j, hi, hj => by
    have e : (i + 1) * k + j - (f x).length = i * k + j := by rw [hk, Nat.add_mul]; omega
    rw [List.flatMap_cons, List.getElem?_append_right (by rw [hk, Nat.add_mul]; omega), e, flat_get hk l i j (by simpa using hi) hj]
    simp
end Go.Proofs.YtkeledbgmpienaaGreat

/- A region that draws its order, of whose first n operations each yields ONE value in every world of a class (and leaves a world of it): one walk, in the order of the text, serves every order; what stands behind them goes one after the other. No program. -/
namespace Go.Proofs.YtkeledbgmpienaaGreat
open Go.RowKit

section
variable {P : Program} {ops : Array Oper} {md : Region.Mode} {C : World → Prop}

/-- From here on k operations below n, each of which may come up now and has one value; E holds behind all. -/
inductive Det (P : Program) (md : Region.Mode) (ops : Array Oper) (C : World → Prop) (n : Nat) (E : Array Bool → Act → Prop) : Nat → Array Bool → Act → Prop
  | done {listed : Array Bool} {a : Act} : (∀ j ∈ Region.ready md ops listed, n ≤ j) → E listed a → Det P md ops C n E 0 listed a
  | step {k i : Nat} {listed : Array Bool} {a : Act} {o : Oper} {v : Value} : ops[i]? = some o → i < n → HeadInv md ops n listed → i ∈ Region.ready md ops listed →
      (∀ j oj, ops[j]? = some oj → j ≠ i → listed.getD j true = false → (∀ e ∈ oj.after, Region.binds md e = true → e.on ≠ i) → o.apart ops oj = true) →
      YieldsIn P ops C o v a → Det P md ops C n E k (listed.setIfInBounds i true) (a.put o.dst v) → Det P md ops C n E (k + 1) listed a

/-- while one of the first n is to come none behind them may come up -/
def TailWaits (md : Region.Mode) (ops : Array Oper) (n : Nat) : Prop :=
  ∀ listed, HeadInv md ops n listed → ∀ i, i < n → listed.getD i true = false → ∀ t ∈ Region.ready md ops listed, t < n

theorem Det.any {n : Nat} {E : Array Bool → Act → Prop} (hsel : ∀ (j : Nat) (o : Oper) cs b, ops[j]? = some o → o.op ≠ .select cs b) (hT : TailWaits md ops n) :
    ∀ {k : Nat} {listed : Array Bool} {a : Act}, Det P md ops C n E (k + 1) listed a →
      Region.ready md ops listed ≠ [] ∧ ∀ j ∈ Region.ready md ops listed, ∃ o v, ops[j]? = some o ∧ YieldsIn P ops C o v a ∧ Det P md ops C n E k (listed.setIfInBounds j true) (a.put o.dst v) := by
  intro k
  induction k with
  | zero =>
    intro listed a h
    cases h with
    | @step _ i _ _ o v ho hin inv hr hap hy hd =>
      refine ⟨fun h => (by rw [h] at hr; cases hr), fun j hj => ?_⟩
      by_cases hji : j = i
      · subst hji; exact ⟨o, v, ho, hy, hd⟩
      · cases hd with
        | done hge _ => have h1 := hT _ inv i hin (mem_ready.1 hr).1 j hj; have h2 := hge j (ready_mono hj hji); omega
  | succ k ih =>
    intro listed a h
    cases h with
    | @step _ i _ _ o v ho hin inv hr hap hy hd =>
      refine ⟨fun h => (by rw [h] at hr; cases hr), fun j hj => ?_⟩
      by_cases hji : j = i
      · subst hji; exact ⟨o, v, ho, hy, hd⟩
      · obtain ⟨_, h2⟩ := ih hd
        obtain ⟨oj, u, hoj, hyj, hdj⟩ := h2 j (ready_mono hj hji)
        obtain ⟨hjun, oj', hoj', hall⟩ := mem_ready.1 hj
        obtain rfl : oj' = oj := Option.some.inj (hoj'.symm.trans hoj)
        have hun := (mem_ready.1 hr).1
        have hnot : ∀ e ∈ oj'.after, Region.binds md e = true → e.on ≠ i := fun e he hb heq => by
          have h1 := hall e he hb
          rw [heq, getD_both hun] at h1
          cases h1
        have hapj := hap j oj' hoj hji hjun hnot
        obtain ⟨a1, a2, a3⟩ := Oper.apart_spec hapj
        have hyj' : YieldsIn P ops C oj' u a := hyj.of_same (execOp_put oj' (fun cs b => hsel j oj' cs b hoj) a o.dst v a1).symm (wanted_put oj' a o.dst v a1).symm
        have hyi' : YieldsIn P ops C o v (a.put oj'.dst u) := hy.of_same (execOp_put o (fun cs b => hsel i o cs b ho) a oj'.dst u a3) (wanted_put o a oj'.dst u a3)
        refine ⟨oj', u, hoj, hyj', ?_⟩
        rw [Act.put_comm a v u a2, Array.setIfInBounds_comm _ _ (Ne.symm hji)] at hdj
        refine Det.step ho hin (inv.set hj (hT _ inv i hin hun j hj)) (ready_mono hr (Ne.symm hji)) ?_ hyi' hdj
        intro m om hm hmi hmun hmno
        refine hap m om hm hmi ?_ hmno
        by_cases hmj : j = m
        · subst hmj; exact hjun
        · rw [getD_set_ne true hmj] at hmun; exact hmun

variable {Q : Act → Prop} {a : Act} {o : Oper} {rest : List Oper}
end
end Go.Proofs.YtkeledbgmpienaaGreat

/- Rows of changes: reading, putting; slices.Clone; tenderref25.Same; Light. -/
namespace Go.Proofs.YtkeledbgmpienaaGreat
open Go.RowKit Go.WideShapes Go.ChangeShapes Go.ChangeAt

/-- changes in a slice -/
structure Chs (w : World) (Z : Nat → Prop) (A : Option Addr) (l : List CV) : Prop where
  rd : Rd w Z 9 A l.length (l.flatMap CV.cells)
  p : ∀ o ∈ l, o.p.size ≤ 140737488355328
  len : l.length ≤ 140737488355328
theorem Chs.fr {w w' : World} {Z S : Nat → Prop} {A : Option Addr} {l : List CV} (h : Chs w Z A l) (k : Fr S w w') (hs : ∀ b, b < w.heap.size → Z b → ¬ S b) : Chs w' Z A l :=
  ⟨h.rd.fr k hs, h.p, h.len⟩
theorem Chs.below {w w' : World} {Z : Nat → Prop} {A : Option Addr} {l : List CV} (h : Chs w Z A l) (k : Below w.heap.size w w') : Chs w' Z A l := h.fr (Fr.of_below k (fun _ => False)) (fun _ _ _ h => h)
theorem Chs.mono {w : World} {Z Z' : Nat → Prop} {A : Option Addr} {l : List CV} (h : Chs w Z A l) (hz : ∀ b, b < w.heap.size → Z b → Z' b) : Chs w Z' A l := ⟨h.rd.mono hz, h.p, h.len⟩
/-- the cells of one -/
structure At9 (w : World) (b o : Nat) (x : CV) : Prop where
  c0 : w.cell? ⟨b, o, none⟩ = some (.string x.p)
  c1 : w.cell? ⟨b, o + 1, none⟩ = some (.int .i64 x.b)
  c2 : w.cell? ⟨b, o + 2, none⟩ = some (.bool x.m)
  c3 : w.cell? ⟨b, o + 3, none⟩ = some (.bool x.t)
  c4 : w.cell? ⟨b, o + 4, none⟩ = some (.int .i64 x.k)
  c5 : w.cell? ⟨b, o + 5, none⟩ = some (.int .i64 x.o)
  c6 : w.cell? ⟨b, o + 6, none⟩ = some (.int .i64 x.s)
  c7 : w.cell? ⟨b, o + 7, none⟩ = some (.int .i64 x.l)
  c8 : w.cell? ⟨b, o + 8, none⟩ = some (.int .i64 x.v)
theorem At9.below {w w' : World} {b o : Nat} {x : CV} (h : At9 w b o x) (hb : b < w.heap.size) (k : Below w.heap.size w w') : At9 w' b o x := by
  obtain ⟨a0, a1, a2, a3, a4, a5, a6, a7, a8⟩ := h
  exact ⟨cellAt k hb a0, cellAt k hb a1, cellAt k hb a2, cellAt k hb a3, cellAt k hb a4, cellAt k hb a5, cellAt k hb a6, cellAt k hb a7, cellAt k hb a8⟩
theorem ch_len (x : CV) : x.cells.length = 9 := rfl
theorem ch_at {w : World} {Z : Nat → Prop} {A : Option Addr} {l : List CV} {i : Nat} (h : Rd w Z 9 A l.length (l.flatMap CV.cells)) (hi : i < l.length) :
    ∃ b off, A = some ⟨b, off, none⟩ ∧ Z b ∧ b < w.heap.size ∧ At9 w b (off + i * 9) l[i] := by
  obtain ⟨b, off, hA, hz, hb, hc⟩ := h.2 (by omega)
  have hg : ∀ j, j < 9 → (l.flatMap CV.cells)[i * 9 + j]? = (CV.cells l[i])[j]? := fun j hj => flat_get (k := 9) ch_len l i j hi hj
  refine ⟨b, off, hA, hz, hb, ?_, ?_, ?_, ?_, ?_, ?_, ?_, ?_, ?_⟩
  · exact hc _ _ (hg 0 (by omega))
  all_goals rw [Nat.add_assoc]
  · exact hc _ _ (hg 1 (by omega))
  · exact hc _ _ (hg 2 (by omega))
  · exact hc _ _ (hg 3 (by omega))
  · exact hc _ _ (hg 4 (by omega))
  · exact hc _ _ (hg 5 (by omega))
  · exact hc _ _ (hg 6 (by omega))
  · exact hc _ _ (hg 7 (by omega))
  · exact hc _ _ (hg 8 (by omega))


theorem ch_one (l : List CV) : ∀ u ∈ l.flatMap CV.cells, u.oneCell' = true := by
  intro u hu
  obtain ⟨x, _, hx⟩ := List.mem_flatMap.1 hu
  simp only [CV.cells, List.mem_cons, List.not_mem_nil, or_false] at hx
  rcases hx with rfl | rfl | rfl | rfl | rfl | rfl | rfl | rfl | rfl <;> rfl
theorem ch_info : (Tryz.prog.info? 47).map (fun i => (i.zero, i.size, i.bytes)) = some (some (.agg #[.string ⟨#[]⟩, .int .i64 0, .bool false, .bool false, .int .i64 0, .int .i64 0, .int .i64 0, .int .i64 0, .int .i64 0]), 9, 72) := by kernel_rfl
/-- the verdict of one, put in place -/
theorem ch_put : ∀ (l : List CV) (i : Nat) (x : CV), l[i]? = some x → (l.flatMap CV.cells).set (i * 9 + 8) (.int .i64 5) = (l.set i x.conf).flatMap CV.cells
  | a :: l, 0, x, h => by
    simp at h
    subst h
    simp [CV.cells, CV.conf]
  | a :: l, i + 1, x, h => by
    have ih := ch_put l i x (by simpa using h)
    rw [List.flatMap_cons, List.set_cons_succ, List.flatMap_cons, ← ih, List.set_append_right _ _ (by rw [ch_len, Nat.add_mul]; omega), ch_len]
    congr 2
    omega

set_option maxRecDepth 100000 in
set_option maxHeartbeats 1000000 in
theorem cloneC_any (A : Option Addr) (c : Nat) (l : List CV) (Z : Nat → Prop) (w : World) (h : Rd w Z 9 A l.length (l.flatMap CV.cells)) (hlen : l.length ≤ 1000000) :
    Calls Tryz.prog 31 #[.slice A l.length c] w fun e w' => ∃ (A' : Option Addr) (c' : Nat), e = .returned (.slice A' l.length c') ∧ Row w' w.heap.size 47 9 A' l.length c' (l.flatMap CV.cells) ∧ Below w.heap.size w w' := by
  obtain ⟨i0, hi0, hz0, hz1, hz2⟩ := info_parts ch_info
  rcases A with _ | a
  · have hl : l = [] := by
      rcases l with _ | ⟨x, l⟩
      · rfl
      · obtain ⟨b, off, e, _⟩ := h.2 (by simp); cases e
    subst hl
    have k1 : ∀ w, (binOp .eql 42 (.slice none 0 c) (.slice none 0 0)).run Tryz.prog w = .ok (.bool true) w := fun w => Lib.run_eql_slice_nil (P := Tryz.prog) w 42 47 none 0 c 0 0 Tryz.underlying42
    show Calls Tryz.prog 31 #[.slice none 0 c] w _
    go_enter Tryz.func31, Tryz.ntmps31
    go_wp2_with fail
    go_ret
    exact ⟨none, 0, rfl, Row.none_ _ _ _ _, Below.refl _ _⟩
  · have k1 := fun w => Lib.run_eql_slice_nil (P := Tryz.prog) w 42 47 (some a) l.length c 0 0 Tryz.underlying42
    have hch := ch_one l
    generalize hn : l.length = n at *
    generalize l.flatMap CV.cells = xs at *
    clear hn
    have hr := h.alloc (.cells #[] 47)
    have hrow : Row (w.alloc (.cells #[] 47)) w.heap.size 47 9 (some ⟨w.heap.size, 0, none⟩) 0 0 [] :=
      ⟨by simp, Nat.le_refl _, by simp [maxLen], fun h => (by cases h), fun a ha => by
        injection ha with ha
        subst ha
        exact ⟨w.heap.size, 0, _, rfl, Nat.le_refl _, Blk.new w _ _, by simp, by simp⟩⟩
    have HR := Lib.hid hr
    have HW := Lib.hid hrow
    have HC := Lib.hid hch
    clear hr hrow hch h
    go_enter Tryz.func31, Tryz.ntmps31
    go_wp2_with (at_builtin; refine wpList_append_row _ rfl (.tmp 5) (.tmp 6) 42 rfl w.heap.size 47 i0 _ 9 72 Tryz.underlying42 hi0 hz0 hz1 hz2 rfl (by omega) rfl HW.out rfl HR.out HC.out (by simp only [maxLen]; omega) (by omega) (by simp) ?_; intro A' c' w1 h1 h2 h3; rw [List.nil_append, Nat.zero_add] at h1)
    have hb : Below w.heap.size w w1 := by
      have hf : Fr (fun k => k = w.heap.size) (w.alloc (.cells #[] 47)) w1 := Fr.of_grown h2 (fun k hk e => by simp [ablk] at e; omega)
      exact ((Below.refl _ _).alloc (Nat.le_refl _) _).trans (hf.below (by simp) (fun k hk e => by omega))
    go_ret
    exact ⟨A', c', by simp, h1, hb⟩

end Go.Proofs.YtkeledbgmpienaaGreat

/- Insertion, and sorting that keeps what stands alike in its order: plain. No program. -/
namespace Go.Proofs.YtkeledbgmpienaaGreat

section
variable {α : Type} (lt : α → α → Bool)
/-- put ahead of all that are behind it -/
def insC (x : α) : List α → List α
  | [] => [x]
  | y :: P => if lt x y = true then x :: y :: P else y :: insC x P
def sortC (l : List α) : List α := l.foldl (fun P x => insC lt x P) []
/-- a strict order whose being alike is one, too -/
structure OrdC : Prop where
  irr : ∀ a, lt a a = false
  tr : ∀ a b c, lt a b = true → lt b c = true → lt a c = true
  neg : ∀ a b c, lt a c = true → lt a b = true ∨ lt b c = true
def SortedC (l : List α) : Prop := l.Pairwise fun a b => lt b a = false
variable {lt}
theorem insC_cons (x y : α) (P : List α) : insC lt x (y :: P) = if lt x y = true then x :: y :: P else y :: insC lt x P := rfl
theorem insC_split {x : α} : ∀ {A B : List α}, (∀ y ∈ A, lt x y = false) → (∀ y ∈ B, lt x y = true) → insC lt x (A ++ B) = A ++ x :: B
  | [], [], _, _ => rfl
  | [], y :: B, _, hB => by
    show (if lt x y = true then _ else _) = _
    rw [if_pos (hB y (by simp))]
    rfl
  | a :: A, B, hA, hB => by
    rw [List.cons_append, insC_cons, if_neg (by rw [hA a (by simp)]; decide), insC_split (A := A) (fun y hy => hA y (by simp [hy])) hB]
    rfl
theorem insC_mem {x y : α} : ∀ {P : List α}, y ∈ insC lt x P ↔ y = x ∨ y ∈ P
  | [] => by simp [insC]
  | z :: P => by
    unfold insC
    split
    · simp
    · rw [List.mem_cons, insC_mem (P := P), List.mem_cons]
      constructor
      · rintro (h | h | h)
        · exact .inr (.inl h)
        · exact .inl h
        · exact .inr (.inr h)
      · rintro (h | h | h)
        · exact .inr (.inl h)
        · exact .inl h
        · exact .inr (.inr h)
theorem insC_len {x : α} : ∀ {P : List α}, (insC lt x P).length = P.length + 1
  | [] => rfl
  | z :: P => by
    unfold insC
    split
    · rfl
    · rw [List.length_cons, insC_len (P := P), List.length_cons]
theorem SortedC.ins (h : OrdC lt) {x : α} : ∀ {P : List α}, SortedC lt P → SortedC lt (insC lt x P)
  | [], _ => by simp [insC, SortedC]
  | z :: P, hp => by
    unfold SortedC at hp
    rw [List.pairwise_cons] at hp
    unfold insC
    split
    · rename_i hx
      refine List.pairwise_cons.2 ⟨fun y hy => ?_, List.pairwise_cons.2 hp⟩
      rcases List.mem_cons.1 hy with rfl | hy
      · cases hh : lt y x
        · rfl
        · have := h.tr _ _ _ hx hh
          rw [h.irr] at this; cases this
      · cases hh : lt y x
        · rfl
        · have h1 := h.tr _ _ _ hh hx
          rw [hp.1 y hy] at h1; cases h1
    · rename_i hx
      refine List.pairwise_cons.2 ⟨fun y hy => ?_, SortedC.ins h hp.2⟩
      rcases insC_mem.1 hy with rfl | hy
      · simpa using hx
      · exact hp.1 y hy
theorem sortC_snoc (l : List α) (x : α) : sortC lt (l ++ [x]) = insC lt x (sortC lt l) := by simp [sortC]
theorem sortC_sorted (h : OrdC lt) (l : List α) : SortedC lt (sortC lt l) := by
  unfold sortC
  have : ∀ (l P : List α), SortedC lt P → SortedC lt (l.foldl (fun P x => insC lt x P) P) := by
    intro l
    induction l with
    | nil => exact fun P h => h
    | cons x l ih => exact fun P hp => ih _ (hp.ins h)
  exact this l [] List.Pairwise.nil
theorem sortC_len (l : List α) : (sortC lt l).length = l.length := by
  unfold sortC
  have : ∀ (l P : List α), (l.foldl (fun P x => insC lt x P) P).length = P.length + l.length := by
    intro l
    induction l with
    | nil => simp
    | cons x l ih => intro P; rw [List.foldl_cons, ih, insC_len, List.length_cons]; omega
  simpa using this l []
theorem sortC_mem {l : List α} {y : α} : y ∈ sortC lt l ↔ y ∈ l := by
  unfold sortC
  have : ∀ (l P : List α), y ∈ l.foldl (fun P x => insC lt x P) P ↔ y ∈ P ∨ y ∈ l := by
    intro l
    induction l with
    | nil => simp
    | cons x l ih =>
      intro P
      rw [List.foldl_cons, ih, insC_mem, List.mem_cons]
      constructor
      · rintro ((h | h) | h)
        · exact .inr (.inl h)
        · exact .inl h
        · exact .inr (.inr h)
      · rintro (h | h | h)
        · exact .inl (.inr h)
        · exact .inl (.inl h)
        · exact .inr h
  simpa using this l []
/-- what is put into a sorted row, where it stops on its way from the end -/
theorem insC_at (h : OrdC lt) {x : α} {P : List α} (hP : SortedC lt P) {j : Nat} (hj : j ≤ P.length) (h1 : ∀ y ∈ P.drop j, lt x y = true) (h2 : ∀ (i : Nat) (hi : i < P.length), i + 1 = j → lt x P[i] = false) : insC lt x P = P.take j ++ x :: P.drop j := by
  conv => lhs; rw [← List.take_append_drop j P]
  refine insC_split (fun y hy => ?_) h1
  rcases j with _ | j
  · simp at hy
  · obtain ⟨i, hi, rfl⟩ := List.mem_take_iff_getElem.1 hy
    have hjl : j < P.length := by omega
    have hs := h2 j hjl rfl
    by_cases e : i = j
    · subst e; exact hs
    · have hij := List.pairwise_iff_getElem.1 hP i j (by omega) hjl (by omega)
      cases hh : lt x (P[i]'(by omega))
      · rfl
      · rcases h.neg _ (P[j]'hjl) _ hh with h3 | h3
        · rw [hs] at h3; cases h3
        · rw [hij] at h3; cases h3
/-- what is left of the sorted row is the sorted row of what is left -/
theorem insC_filter (h : OrdC lt) (f : α → Bool) {x : α} : ∀ {P : List α}, SortedC lt P → (insC lt x P).filter f = if f x = true then insC lt x (P.filter f) else P.filter f
  | [], _ => by
    simp only [insC, List.filter_cons, List.filter_nil]
  | z :: P, hp => by
    have hp' := hp
    unfold SortedC at hp'
    rw [List.pairwise_cons] at hp'
    rw [insC_cons]
    by_cases hx : lt x z = true
    · rw [if_pos hx]
      rw [List.filter_cons]
      by_cases hf : f x = true
      · rw [if_pos hf, if_pos hf]
        have hall : ∀ y ∈ (z :: P).filter f, lt x y = true := by
          intro y hy
          rcases List.mem_cons.1 (List.mem_filter.1 hy).1 with rfl | hy
          · exact hx
          · rcases h.neg _ y _ hx with h3 | h3
            · exact h3
            · rw [hp'.1 y hy] at h3; cases h3
        have := insC_split (x := x) (A := []) (by simp) hall
        rw [List.nil_append, List.nil_append] at this
        exact this.symm
      · rw [if_neg hf, if_neg hf]
    · rw [if_neg hx, List.filter_cons, insC_filter h f hp'.2]
      by_cases hz : f z = true
      · rw [if_pos hz, List.filter_cons, if_pos hz]
        by_cases hf : f x = true
        · rw [if_pos hf, if_pos hf]
          show _ = if lt x z = true then _ else _
          rw [if_neg hx]
        · rw [if_neg hf, if_neg hf]
      · rw [if_neg hz, List.filter_cons, if_neg hz]
theorem sortC_filter (h : OrdC lt) (f : α → Bool) (l : List α) : (sortC lt l).filter f = sortC lt (l.filter f) := by
  have : ∀ (l P : List α), SortedC lt P → (l.foldl (fun P x => insC lt x P) P).filter f = (l.filter f).foldl (fun P x => insC lt x P) (P.filter f) := by
    intro l
    induction l with
    | nil => intro P _; rfl
    | cons x l ih =>
      intro P hp
      rw [List.foldl_cons, ih _ (hp.ins h), insC_filter h f hp, List.filter_cons]
      by_cases hf : f x = true
      · rw [if_pos hf, if_pos hf, List.foldl_cons]
      · rw [if_neg hf, if_neg hf]
  exact this l [] List.Pairwise.nil
end
end Go.Proofs.YtkeledbgmpienaaGreat

/- A sorted row that keeps what stands alike in its order: there is one. Plain, no program. -/
namespace Go.Proofs.YtkeledbgmpienaaGreat

section
variable {α : Type} (lt : α → α → Bool)
/-- neither is ahead of the other -/
def alike (z x : α) : Bool := !lt z x && !lt x z
/-- M is X sorted; what stands alike keeps its order -/
structure StableOf (X M : List α) : Prop where
  sort : SortedC lt M
  same : ∀ z, M.filter (alike lt z) = X.filter (alike lt z)
variable {lt}
theorem alike_self (h : OrdC lt) (x : α) : alike lt x x = true := by simp [alike, h.irr]
theorem alike_symm {x y : α} (h : alike lt x y = true) : alike lt y x = true := by
  unfold alike at *
  rw [Bool.and_comm]
  exact h
/-- ahead of what is alike -/
theorem lt_alike (h : OrdC lt) {x y z : α} (h1 : lt x y = true) (h2 : alike lt y z = true) : lt x z = true := by
  unfold alike at h2
  simp only [Bool.and_eq_true, Bool.not_eq_eq_eq_not, Bool.not_true] at h2
  rcases h.neg _ z _ h1 with h3 | h3
  · exact h3
  · rw [h2.2] at h3; cases h3
theorem alike_trans (h : OrdC lt) {x y z : α} (h1 : alike lt x y = true) (h2 : alike lt y z = true) : alike lt x z = true := by
  rcases hx : alike lt x z with _ | _
  · unfold alike at hx
    rw [Bool.and_eq_false_iff, Bool.not_eq_eq_eq_not, Bool.not_false, Bool.not_eq_eq_eq_not, Bool.not_false] at hx
    rcases hx with hx | hx
    · have := lt_alike h hx (alike_symm h2)
      unfold alike at h1
      rw [this] at h1; simp at h1
    · have := lt_alike h hx h1
      unfold alike at h2
      rw [this] at h2; simp at h2
  · rfl
theorem SortedC.head {x : α} {M : List α} (h : SortedC lt (x :: M)) : ∀ y ∈ M, lt y x = false := (List.pairwise_cons.1 h).1
theorem SortedC.tail {x : α} {M : List α} (h : SortedC lt (x :: M)) : SortedC lt M := (List.pairwise_cons.1 h).2
theorem sorted_uniq (h : OrdC lt) : ∀ {M M' : List α}, SortedC lt M → SortedC lt M' → (∀ z, M.filter (alike lt z) = M'.filter (alike lt z)) → M = M'
  | [], [], _, _, _ => rfl
  | [], y :: M', _, _, he => by
    have := he y
    rw [List.filter_cons, if_pos (alike_self h y)] at this
    cases this
  | x :: M, [], _, _, he => by
    have := he x
    rw [List.filter_cons, if_pos (alike_self h x)] at this
    cases this
  | x :: M, y :: M', hs, hs', he => by
    have hin : ∀ {A B : List α}, (∀ z, A.filter (alike lt z) = B.filter (alike lt z)) → ∀ a ∈ A, a ∈ B := fun e a ha => by
      have : a ∈ _ := List.mem_filter.2 ⟨ha, alike_self h a⟩
      rw [e a] at this
      exact (List.mem_filter.1 this).1
    have h1 : lt y x = false := by
      rcases List.mem_cons.1 (hin (fun z => (he z).symm) y (by simp)) with e | e
      · rw [e]; exact h.irr x
      · exact hs.head y e
    have h2 : lt x y = false := by
      rcases List.mem_cons.1 (hin he x (by simp)) with e | e
      · rw [e]; exact h.irr y
      · exact hs'.head x e
    have hxy : alike lt x y = true := by simp [alike, h1, h2]
    have e := he x
    rw [List.filter_cons, if_pos (alike_self h x), List.filter_cons, if_pos hxy] at e
    injection e with e1 e2
    subst e1
    congr 1
    refine sorted_uniq h hs.tail hs'.tail fun z => ?_
    have e3 := he z
    rw [List.filter_cons, List.filter_cons] at e3
    by_cases hz : alike lt z x = true
    · rw [if_pos hz, if_pos hz] at e3
      injection e3
    · rw [if_neg hz, if_neg hz] at e3
      exact e3
theorem sortC_alike (h : OrdC lt) {z : α} : ∀ (l : List α), (∀ y ∈ l, alike lt z y = true) → sortC lt l = l := by
  have hl : ∀ (l P : List α), (∀ y ∈ l, alike lt z y = true) → (∀ y ∈ P, alike lt z y = true) → l.foldl (fun P x => insC lt x P) P = P ++ l := by
    intro l
    induction l with
    | nil => intro P _ _; simp
    | cons x l ih =>
      intro P h1 h2
      have hx : insC lt x P = P ++ [x] := by
        have := insC_split (lt := lt) (x := x) (A := P) (B := []) (fun y hy => by
          have h3 := alike_trans h (alike_symm (h1 x (by simp))) (h2 y hy)
          unfold alike at h3
          simp only [Bool.and_eq_true, Bool.not_eq_eq_eq_not, Bool.not_true] at h3
          exact h3.1) (by simp)
        rwa [List.append_nil] at this
      rw [List.foldl_cons, hx, ih _ (fun y hy => h1 y (by simp [hy])) (fun y hy => by
        rcases List.mem_append.1 hy with hy | hy
        · exact h2 y hy
        · rw [List.mem_singleton.1 hy]; exact h1 x (by simp)), List.append_assoc]
      rfl
  intro l hz
  exact (hl l [] hz (by simp)).trans (List.nil_append l)
theorem sortC_stable (h : OrdC lt) (X : List α) : StableOf lt X (sortC lt X) :=
  ⟨sortC_sorted h X, fun z => by
    rw [sortC_filter h]
    exact sortC_alike h (z := z) _ (fun y hy => (List.mem_filter.1 hy).2)⟩
theorem StableOf.eq (h : OrdC lt) {X M : List α} (k : StableOf lt X M) : M = sortC lt X :=
  sorted_uniq h k.sort (sortC_sorted h X) fun z => by rw [k.same, (sortC_stable h X).same]
theorem StableOf.mem (h : OrdC lt) {X M : List α} (k : StableOf lt X M) {y : α} : y ∈ M ↔ y ∈ X := by
  rw [k.eq h]; exact sortC_mem
theorem StableOf.len (h : OrdC lt) {X M : List α} (k : StableOf lt X M) : M.length = X.length := by
  rw [k.eq h]; exact sortC_len X
theorem StableOf.self {X : List α} (hs : SortedC lt X) : StableOf lt X X := ⟨hs, fun _ => rfl⟩
/-- two sorted rows: the first part of each, and the rest of each -/
theorem stable_merge (h : OrdC lt) {L1 L2 R1 R2 M1 M2 : List α} (hL : SortedC lt (L1 ++ L2)) (hR : SortedC lt (R1 ++ R2)) (h1 : ∀ x ∈ L1, ∀ y ∈ R2, lt y x = false) (h2 : ∀ y ∈ R1, ∀ x ∈ L2, lt y x = true)
    (k1 : StableOf lt (L1 ++ R1) M1) (k2 : StableOf lt (L2 ++ R2) M2) : StableOf lt ((L1 ++ L2) ++ (R1 ++ R2)) (M1 ++ M2) := by
  refine ⟨List.pairwise_append.2 ⟨k1.sort, k2.sort, fun a ha b hb => ?_⟩, fun z => ?_⟩
  · have hLp := (List.pairwise_append.1 hL).2.2
    have hRp := (List.pairwise_append.1 hR).2.2
    rcases List.mem_append.1 ((k1.mem h).1 ha) with ha | ha <;> rcases List.mem_append.1 ((k2.mem h).1 hb) with hb | hb
    · exact hLp a ha b hb
    · exact h1 a ha b hb
    · cases hh : lt b a
      · rfl
      · have := h.tr _ _ _ hh (h2 a ha b hb)
        rw [h.irr] at this; cases this
    · exact hRp a ha b hb
  · rw [List.filter_append, k1.same, k2.same]
    simp only [List.filter_append, List.append_assoc]
    congr 1
    rw [← List.append_assoc, ← List.append_assoc]
    congr 1
    -- what is alike is not both in R1 and in L2
    rcases hf : L2.filter (alike lt z) with _ | ⟨x, t⟩
    · simp
    · have hx : x ∈ L2.filter (alike lt z) := by rw [hf]; simp
      have hx2 := List.mem_filter.1 hx
      have hr : R1.filter (alike lt z) = [] := by
        rw [List.filter_eq_nil_iff]
        intro y hy hzy
        have := h2 y hy x hx2.1
        have h3 := alike_trans h (alike_symm hx2.2) hzy
        unfold alike at h3
        rw [this] at h3
        simp at h3
      rw [hr]; simp
end
end Go.Proofs.YtkeledbgmpienaaGreat

/- Rows of what stands at paths, in the paths' order: plain. No program. -/
namespace Go.Proofs.YtkeledbgmpienaaGreat

theorem ordT : Ord3 cmpT where
  rng _ _ := ordP.rng _ _
  flip _ _ := ordP.flip _ _
  eq := cmpT_eq
  trans _ _ _ h k := ordP.trans _ _ _ h k
theorem cmpT_self (a : List UInt8) : cmpT a a = 0 := (cmpT_eq a a).2 rfl
/-- not behind -/
def leT (x y : List UInt8) : Bool := !decide (cmpT y x < 0)
theorem leT_trans (a b c : List UInt8) (h : leT a b = true) (k : leT b c = true) : leT a c = true := by
  simp only [leT, Bool.not_eq_true', decide_eq_false_iff_not] at *
  intro hc
  have h1 := ordT.flip a b
  have h2 := ordT.flip b c
  have h3 := ordT.flip a c
  by_cases e : cmpT a b = 0
  · have := (cmpT_eq a b).1 e
    subst this
    omega
  · by_cases e2 : cmpT b c = 0
    · have := (cmpT_eq b c).1 e2
      subst this
      omega
    · have := ordT.trans a b c (by omega) (by omega)
      omega
theorem leT_total (a b : List UInt8) : (leT a b || leT b a) = true := by
  simp only [leT, Bool.or_eq_true, Bool.not_eq_true', decide_eq_false_iff_not]
  have h1 := ordT.flip a b
  omega
theorem leT_anti (a b : List UInt8) (h : leT a b = true) (k : leT b a = true) : a = b := by
  simp only [leT, Bool.not_eq_true', decide_eq_false_iff_not] at *
  have h1 := ordT.flip a b
  exact (cmpT_eq a b).1 (by omega)

theorem nodup_len : ∀ (a b : List (List UInt8)), a.Nodup → a ⊆ b → a.length ≤ b.length
  | [], _, _, _ => Nat.zero_le _
  | x :: a, b, h, hs => by
    have hx : x ∈ b := hs (by simp)
    have hc := List.nodup_cons.1 h
    have h1 := nodup_len a (b.erase x) hc.2 (fun y hy => (List.mem_erase_of_ne (fun (e : y = x) => hc.1 (by rw [← e]; exact hy))).2 (hs (by simp [hy])))
    have h2 := List.length_pos_of_mem hx
    rw [List.length_erase_of_mem hx] at h1
    simp only [List.length_cons]
    omega
section
variable {α : Type}
/-- what stands at a path -/
def getR (L : List (List UInt8 × α)) (p : List UInt8) : Option α := (L.find? fun x => x.1 == p).map (·.2)
def withoutR (L : List (List UInt8 × α)) (p : List UInt8) : List (List UInt8 × α) := L.filter fun x => !(x.1 == p)
def insR (p : List UInt8) (v : α) : List (List UInt8 × α) → List (List UInt8 × α)
  | [] => [(p, v)]
  | x :: L => if 0 < cmpT x.1 p then (p, v) :: x :: L else x :: insR p v L
def putR (L : List (List UInt8 × α)) (p : List UInt8) (v : α) : List (List UInt8 × α) := insR p v (withoutR L p)
def keysR (L : List (List UInt8 × α)) : List (List UInt8) := L.map (·.1)
/-- in the paths' order, no path twice -/
def SortR (L : List (List UInt8 × α)) : Prop := L.Pairwise fun a b => cmpT a.1 b.1 < 0

theorem getR_nil (p : List UInt8) : getR ([] : List (List UInt8 × α)) p = none := rfl
theorem getR_cons (x : List UInt8 × α) (L : List (List UInt8 × α)) (p : List UInt8) : getR (x :: L) p = if x.1 = p then some x.2 else getR L p := by
  unfold getR
  rw [List.find?_cons]
  by_cases h : x.1 = p
  · simp [h]
  · rw [show (x.1 == p) = false by simpa using h, if_neg h]
theorem getR_none {L : List (List UInt8 × α)} {p : List UInt8} : getR L p = none ↔ ∀ x ∈ L, x.1 ≠ p := by
  induction L with
  | nil => simp [getR_nil]
  | cons y L ih =>
    rw [getR_cons]
    split
    · rename_i h; simp [h]
    · rename_i h; simp [h, ih]
theorem getR_mem {L : List (List UInt8 × α)} {p : List UInt8} {v : α} (h : getR L p = some v) : (p, v) ∈ L := by
  induction L with
  | nil => simp [getR_nil] at h
  | cons y L ih =>
    rw [getR_cons] at h
    split at h
    · rename_i e; cases h; subst e; simp
    · exact List.mem_cons_of_mem _ (ih h)
theorem getR_isSome {L : List (List UInt8 × α)} {p : List UInt8} : (getR L p).isSome = true ↔ p ∈ keysR L := by
  constructor
  · intro h
    obtain ⟨v, hv⟩ := Option.isSome_iff_exists.1 h
    exact List.mem_map.2 ⟨(p, v), getR_mem hv, rfl⟩
  · intro h
    obtain ⟨x, hx, rfl⟩ := List.mem_map.1 h
    rcases hg : getR L x.1 with _ | v
    · exact absurd rfl (getR_none.1 hg x hx)
    · rfl
theorem SortR.get {L : List (List UInt8 × α)} (h : SortR L) {x : List UInt8 × α} (hx : x ∈ L) : getR L x.1 = some x.2 := by
  induction L with
  | nil => cases hx
  | cons y L ih =>
    rw [getR_cons]
    have hc := List.pairwise_cons.1 h
    rcases List.mem_cons.1 hx with rfl | hx
    · rw [if_pos rfl]
    · rw [if_neg, ih hc.2 hx]
      intro e
      have := hc.1 x hx
      rw [e, cmpT_self] at this
      omega
theorem SortR.nodup {L : List (List UInt8 × α)} (h : SortR L) : (keysR L).Nodup := by
  unfold keysR
  rw [List.nodup_iff_pairwise_ne, List.pairwise_map]
  exact h.imp fun hab e => by rw [e, cmpT_self] at hab; omega
theorem SortR.keys {L : List (List UInt8 × α)} (h : SortR L) : (keysR L).Pairwise fun a b => leT a b = true := by
  unfold keysR
  rw [List.pairwise_map]
  refine h.imp fun {a b} hab => ?_
  simp only [leT, Bool.not_eq_true', decide_eq_false_iff_not]
  have := ordT.flip a.1 b.1
  omega
/-- the paths, collected in whatever order, sorted -/
theorem sort_keys {L : List (List UInt8 × α)} (h : SortR L) (f : List UInt8 → Bool) {ss : List (List UInt8)} (hn : ss.Nodup) (hm : ∀ k, k ∈ ss ↔ (k ∈ keysR L ∧ f k = true)) : ss.mergeSort leT = (keysR L).filter f := by
  have hp : ss.Perm ((keysR L).filter f) := (List.perm_ext_iff_of_nodup hn (h.nodup.filter _)).2 fun k => by rw [hm, List.mem_filter]
  refine List.Perm.eq_of_pairwise (le := fun a b => leT a b = true) (fun a b _ _ h1 h2 => leT_anti a b h1 h2) (List.pairwise_mergeSort leT_trans leT_total ss) (h.keys.filter _) ((List.mergeSort_perm ss leT).trans hp)
theorem SortR.ext {L M : List (List UInt8 × α)} (h : SortR L) (k : SortR M) (e : ∀ p, getR L p = getR M p) : L = M := by
  have hp : (keysR L).Perm (keysR M) := (List.perm_ext_iff_of_nodup h.nodup k.nodup).2 fun p => by rw [← getR_isSome, ← getR_isSome, e]
  have hk : keysR L = keysR M := List.Perm.eq_of_pairwise (le := fun a b => leT a b = true) (fun a b _ _ h1 h2 => leT_anti a b h1 h2) h.keys k.keys hp
  have hl : L.length = M.length := by simpa [keysR] using congrArg List.length hk
  refine List.ext_getElem hl fun i h1 h2 => ?_
  have e1 : (L[i]).1 = (M[i]).1 := by
    have := congrArg (fun l => l[i]?) hk
    simpa [keysR, List.getElem?_map, List.getElem?_eq_getElem h1, List.getElem?_eq_getElem h2] using this
  have g1 := h.get (List.getElem_mem h1)
  have g2 := k.get (List.getElem_mem h2)
  rw [e, e1, g2] at g1
  exact Prod.ext e1 (by simpa using g1.symm)

theorem getR_without (L : List (List UInt8 × α)) (p k : List UInt8) : getR (withoutR L p) k = if k = p then none else getR L k := by
  induction L with
  | nil => simp [withoutR, getR_nil]
  | cons x L ih =>
    unfold withoutR at ih ⊢
    rw [List.filter_cons]
    by_cases h : x.1 = p
    · rw [if_neg (by simp [h]), ih, getR_cons]
      by_cases hk : k = p
      · rw [if_pos hk, if_pos hk]
      · rw [if_neg hk, if_neg hk, if_neg (by rw [h]; exact fun e => hk e.symm)]
    · rw [if_pos (by simp [h]), getR_cons, getR_cons, ih]
      by_cases hk : k = p
      · rw [if_pos hk, if_pos hk, if_neg (by rw [hk]; exact h)]
      · rw [if_neg hk, if_neg hk]
theorem SortR.without {L : List (List UInt8 × α)} (h : SortR L) (p : List UInt8) : SortR (withoutR L p) := List.Pairwise.filter _ h
theorem without_ne (L : List (List UInt8 × α)) (p : List UInt8) : ∀ x ∈ withoutR L p, x.1 ≠ p := by
  intro x hx
  have := (List.mem_filter.1 hx).2
  simpa using this
theorem mem_ins {p : List UInt8} {v : α} {L : List (List UInt8 × α)} {x : List UInt8 × α} : x ∈ insR p v L ↔ x = (p, v) ∨ x ∈ L := by
  induction L with
  | nil => simp [insR]
  | cons y L ih =>
    unfold insR
    split
    · simp
    · simp only [List.mem_cons, ih]
      exact ⟨fun h => by rcases h with h | h | h <;> simp [h], fun h => by rcases h with h | h | h <;> simp [h]⟩
theorem SortR.ins {p : List UInt8} {v : α} {L : List (List UInt8 × α)} (h : SortR L) (hn : ∀ x ∈ L, x.1 ≠ p) : SortR (insR p v L) := by
  induction L with
  | nil => simp [insR, SortR]
  | cons y L ih =>
    have hc := List.pairwise_cons.1 h
    have hf := ordT.flip y.1 p
    have hne : cmpT y.1 p ≠ 0 := fun e => hn y (by simp) ((cmpT_eq _ _).1 e)
    unfold insR
    split
    · rename_i h0
      refine List.pairwise_cons.2 ⟨fun x hx => ?_, h⟩
      rcases List.mem_cons.1 hx with rfl | hx
      · show cmpT p x.1 < 0
        omega
      · exact ordT.trans p y.1 x.1 (by omega) (hc.1 x hx)
    · rename_i h0
      refine List.pairwise_cons.2 ⟨fun x hx => ?_, ih hc.2 (fun x hx => hn x (by simp [hx]))⟩
      rcases mem_ins.1 hx with rfl | hx
      · show cmpT y.1 p < 0
        omega
      · exact hc.1 x hx
theorem getR_ins {p k : List UInt8} {v : α} {L : List (List UInt8 × α)} (hn : ∀ x ∈ L, x.1 ≠ p) : getR (insR p v L) k = if k = p then some v else getR L k := by
  induction L with
  | nil =>
    rw [insR, getR_cons]
    by_cases h : k = p
    · rw [if_pos h, if_pos h.symm]
    · rw [if_neg h, if_neg (fun e => h e.symm)]
  | cons y L ih =>
    unfold insR
    split
    · rw [getR_cons]
      by_cases h : k = p
      · rw [if_pos h, if_pos h.symm]
      · rw [if_neg h, if_neg (fun e => h e.symm)]
    · rw [getR_cons, getR_cons, ih (fun x hx => hn x (by simp [hx]))]
      by_cases h : k = p
      · rw [if_pos h, if_pos h, if_neg (by rw [h]; exact hn y (by simp))]
      · rw [if_neg h, if_neg h]
theorem getR_put (L : List (List UInt8 × α)) (p k : List UInt8) (v : α) : getR (putR L p v) k = if k = p then some v else getR L k := by
  unfold putR
  rw [getR_ins (without_ne L p), getR_without]
  by_cases h : k = p
  · rw [if_pos h, if_pos h]
  · rw [if_neg h, if_neg h, if_neg h]
theorem SortR.put {L : List (List UInt8 × α)} (h : SortR L) (p : List UInt8) (v : α) : SortR (putR L p v) := (h.without p).ins (without_ne L p)
theorem sortR_nil : SortR ([] : List (List UInt8 × α)) := List.Pairwise.nil
theorem ins_len (p : List UInt8) (v : α) : ∀ (L : List (List UInt8 × α)), (insR p v L).length = L.length + 1
  | [] => rfl
  | y :: L => by
    unfold insR
    split
    · rfl
    · simp [ins_len p v L]
theorem without_self {L : List (List UInt8 × α)} {p : List UInt8} (h : getR L p = none) : withoutR L p = L := by
  unfold withoutR
  rw [List.filter_eq_self]
  intro x hx
  have := getR_none.1 h x hx
  simp [this]
theorem without_len_le (L : List (List UInt8 × α)) (p : List UInt8) : (withoutR L p).length ≤ L.length := List.length_filter_le _ _
theorem SortR.without_len {L : List (List UInt8 × α)} (h : SortR L) {p : List UInt8} {v : α} (hg : getR L p = some v) : (withoutR L p).length + 1 = L.length := by
  have e : L = insR p v (withoutR L p) := h.ext ((h.without p).ins (without_ne L p)) fun k => by
    rw [getR_ins (without_ne L p), getR_without]
    by_cases hk : k = p
    · rw [if_pos hk, hk, hg]
    · rw [if_neg hk, if_neg hk]
  have := ins_len p v (withoutR L p)
  rw [← e] at this
  omega
theorem keys_len (L : List (List UInt8 × α)) : (keysR L).length = L.length := by simp [keysR]
/-- what is told of each is told of each -/
theorem getR_map {β : Type} (f : α → β) (L : List (List UInt8 × α)) (p : List UInt8) : getR (L.map fun x => (x.1, f x.2)) p = (getR L p).map f := by
  induction L with
  | nil => rfl
  | cons x L ih =>
    rw [List.map_cons, getR_cons, getR_cons, ih]
    by_cases h : x.1 = p
    · rw [if_pos h, if_pos h]; rfl
    · rw [if_neg h, if_neg h]
theorem without_map {β : Type} (f : α → β) (L : List (List UInt8 × α)) (p : List UInt8) : withoutR (L.map fun x => (x.1, f x.2)) p = (withoutR L p).map fun x => (x.1, f x.2) := by
  unfold withoutR
  rw [List.filter_map]
  rfl
theorem ins_map {β : Type} (f : α → β) (p : List UInt8) (v : α) : ∀ (L : List (List UInt8 × α)), insR p (f v) (L.map fun x => (x.1, f x.2)) = (insR p v L).map fun x => (x.1, f x.2)
  | [] => rfl
  | x :: L => by
    rw [List.map_cons, insR, insR]
    split
    · rfl
    · rw [ins_map f p v L]; rfl
theorem put_map {β : Type} (f : α → β) (L : List (List UInt8 × α)) (p : List UInt8) (v : α) : putR (L.map fun x => (x.1, f x.2)) p (f v) = (putR L p v).map fun x => (x.1, f x.2) := by
  unfold putR
  rw [without_map, ins_map]
theorem keys_map {β : Type} (f : α → β) (L : List (List UInt8 × α)) : keysR (L.map fun x => (x.1, f x.2)) = keysR L := by simp [keysR]
theorem sort_map {β : Type} (f : α → β) {L : List (List UInt8 × α)} : SortR (L.map fun x => (x.1, f x.2)) ↔ SortR L := by
  unfold SortR
  rw [List.pairwise_map]
end
end Go.Proofs.YtkeledbgmpienaaGreat

/- name.Compare. -/
namespace Go.Proofs.YtkeledbgmpienaaGreat
open Go.RowKit

theorem less_cmp : ∀ a b : List UInt8, Op.bytesLess a b = decide (cmpB a b < 0)
  | [], [] => by simp [Op.bytesLess, cmpB, cmpL]
  | _ :: _, [] => by simp [Op.bytesLess, cmpB, cmpL]
  | [], _ :: _ => by simp [Op.bytesLess, cmpB, cmpL]
  | x :: a, y :: b => by
    have ih := less_cmp a b
    unfold cmpB at ih ⊢
    rw [Op.bytesLess, ih, cmpL]
    unfold cmp1
    rw [Bool.eq_iff_iff]
    by_cases h1 : x.toNat < y.toNat
    · simp [h1, UInt8.lt_iff_toNat_lt]
    · by_cases h2 : y.toNat < x.toNat
      · have : ¬ x = y := by rintro rfl; omega
        simp [h1, h2, UInt8.lt_iff_toNat_lt, this]
      · have : x = y := UInt8.toNat_inj.1 (by omega)
        subst this
        simp
theorem nan_str (s : ByteArray) (w : World) : Calls Tryz.prog 72 #[.string s] w fun e w' => e = .returned (.bool false) ∧ w = w' := by
  go_enter Tryz.func72, Tryz.ntmps72
  go_wp2_with fail
  go_ret
  exact ⟨rfl, rfl⟩
theorem cmpStr_any (s t : ByteArray) (w : World) : Calls Tryz.prog 59 #[.string s, .string t] w fun e w' => e = .returned (.int .i64 (cmpB (tl s) (tl t))) ∧ w = w' := by
  obtain ⟨a, ha⟩ : ∃ a, s.data.toList = a := ⟨_, rfl⟩
  obtain ⟨b, hb⟩ : ∃ b, t.data.toList = b := ⟨_, rfl⟩
  have hr := ordB.rng a b
  have HL := Lib.hid (less_cmp a b)
  have HQ := Lib.hid (ordB.eq a b)
  have EA := Lib.hid (show s.toList = a by rw [ByteArray.toList_eq, ha])
  have EB := Lib.hid (show t.toList = b by rw [ByteArray.toList_eq, hb])
  rw [show tl s = a from ha, show tl t = b from hb]
  clear ha hb
  go_enter Tryz.func59, Tryz.ntmps59
  go_wp2_with (first | (go_at_call 72; refine (nan_str _ _).mono ?_; rintro e w1 ⟨rfl, rfl⟩))
  all_goals
    go_ret
    refine ⟨ret_i ?_, rfl⟩
    simp only [EA.out, EB.out] at *
  · have h1 : Op.bytesLess a b = true := by assumption
    rw [HL.out] at h1
    simp at h1
    omega
  · have h1 : Op.bytesLess a b = false := by assumption
    have h2 : (!a == b) = true := by assumption
    rw [HL.out] at h1
    simp at h1 h2
    have := mt HQ.out.1 h2
    omega
  · have h2 : (!a == b) = false := by assumption
    simp at h2
    exact (HQ.out.2 h2).symm
theorem at_any (x : Bool) (w : World) : Calls Tryz.prog 60 #[.bool x] w fun e w' => e = .returned (.int .i64 (if x then 1 else 0)) ∧ w = w' := by
  cases x
  · go_enter Tryz.func60, Tryz.ntmps60
    go_wp2_with fail
    go_ret
    exact ⟨rfl, rfl⟩
  · go_enter Tryz.func60, Tryz.ntmps60
    go_wp2_with fail
    go_ret
    exact ⟨rfl, rfl⟩
/-- one part and whether there is more -/
structure CutTo (s x r : ByteArray) (m : Bool) : Prop where
  call : ∀ w, Calls Tryz.prog 58 #[.string s, .string ⟨#[47]⟩] w fun e w' => e = .returned (.tuple #[.string x, .string r, .bool m]) ∧ Qt w w'
  eq : cutL (tl s) = tl x :: (if m then cutL (tl r) else [])
  size : if m then r.size < s.size else True
  le : x.size ≤ s.size
theorem cut_to (s : ByteArray) (hs : s.size ≤ 9223372036854775807) : ∃ x r m, CutTo s x r m := by
  rcases cut_ways s with ⟨hi, hx⟩ | ⟨i, hi, hit, hx⟩
  · exact ⟨s, ⟨#[]⟩, false, fun w => strCut_none s w hi, by simpa using hx, by simp, Nat.le_refl _⟩
  · exact ⟨_, _, true, fun w => strCut_at s i w hi hit hs, by simpa using hx, by simp; omega, by simp; omega⟩
def strOf : Value → Nat | .string s => s.size | _ => 0
set_option maxHeartbeats 1000000 in
theorem compare_any (a b : ByteArray) (ha : a.size ≤ 9223372036854775807) (hb : b.size ≤ 9223372036854775807) (w : World) : Calls Tryz.prog 34 #[.string a, .string b] w fun e w' => e = .returned (.int .i64 (cmpT (tl a) (tl b))) ∧ Qt w w' := by
  go_enter Tryz.func34, Tryz.ntmps34
  go_wp2_with fail
  go_loopw [0, 1] (fun av bv wr => ∃ x y : ByteArray, av = .string x ∧ bv = .string y ∧ x.size ≤ a.size ∧ y.size ≤ b.size ∧ Hid (cmpT (tl x) (tl y) = cmpT (tl a) (tl b)) ∧ Qt w wr) (fun av _ _ => strOf av)
  case atStart => exact ⟨a, b, rfl, rfl, Nat.le_refl _, Nat.le_refl _, rfl, Qt.refl _⟩
  case round =>
    obtain ⟨x, y, rfl, rfl, hxa, hyb, hC, hq⟩ := hrel
    obtain ⟨x1, xr, xm, kx⟩ := cut_to x (by omega)
    obtain ⟨y1, yr, ym, ky⟩ := cut_to y (by omega)
    have ex := kx.eq
    have ey := ky.eq
    have sx := kx.size
    have sy := ky.size
    have hR : cmpT (tl x) (tl y) = if cmpB (tl x1) (tl y1) = 0 then cmpP (if xm then cutL (tl xr) else []) (if ym then cutL (tl yr) else []) else cmpB (tl x1) (tl y1) := by
      unfold cmpT
      rw [ex, ey]
      rfl
    have HR := Lib.hid (hC.out.symm.trans hR)
    clear hR ex ey hC
    by_cases h1 : x1 = y1
    · subst h1
      rw [if_pos (cmpB_self _)] at HR
      have hy1 := neq_yes (rfl : x1 = x1)
      have HF : ∀ m : Bool, Hid ((if m = true then (1 : Int) else 0) = if m then 1 else 0) := fun _ => rfl
      by_cases hm : xm = true ∧ ym = true
      · obtain ⟨rfl, rfl⟩ := hm
        rw [if_pos rfl] at sx sy
        go_wp2_with fail
        refine (kx.call _).mono ?_
        rintro e w1 ⟨rfl, n1, rfl⟩
        go_wp2_with fail
        refine (ky.call _).mono ?_
        rintro e w1 ⟨rfl, n2, rfl⟩
        go_wp2_with fail
        go_roundw
        case rel => exact ⟨xr, yr, rfl, rfl, by omega, by omega, HR.out.symm, hq.trans ⟨n1 + n2, rfl⟩⟩
        case measure => simp [strOf]; exact sx
      · have HS : Hid (cmpP (if xm = true then cutL (tl xr) else []) (if ym = true then cutL (tl yr) else []) = (if xm = true then 1 else 0) - (if ym = true then 1 else 0)) := by
          show _ = _
          cases xm <;> cases ym
          · rfl
          · obtain ⟨z, zs, e⟩ := List.exists_cons_of_ne_nil (cutL_ne (tl yr))
            simp [cmpP, cmpL, e]
          · obtain ⟨z, zs, e⟩ := List.exists_cons_of_ne_nil (cutL_ne (tl xr))
            simp [cmpP, cmpL, e]
          · simp at hm
        have HR2 := Lib.hid (HR.out.trans HS.out)
        clear HR HS sx sy
        cases xm <;> cases ym
        case true.true => simp at hm
        all_goals
          clear hm
          go_wp2_with fail
          refine (kx.call _).mono ?_
          rintro e w1 ⟨rfl, n1, rfl⟩
          go_wp2_with fail
          refine (ky.call _).mono ?_
          rintro e w1 ⟨rfl, n2, rfl⟩
          go_wp2_with (go_at_call 60; refine (at_any _ _).mono ?_; rintro e w1 ⟨rfl, rfl⟩)
          go_ret
          exact ⟨ret_i (by rw [HR2.out]; rfl), hq.trans ⟨n1 + n2, rfl⟩⟩
    · have hne : cmpB (tl x1) (tl y1) ≠ 0 := fun e => h1 (tl_inj ((ordB.eq _ _).1 e))
      rw [if_neg hne] at HR
      have hn := neq_no h1
      clear hne sx sy
      go_wp2_with fail
      refine (kx.call _).mono ?_
      rintro e w1 ⟨rfl, n1, rfl⟩
      go_wp2_with fail
      refine (ky.call _).mono ?_
      rintro e w1 ⟨rfl, n2, rfl⟩
      go_wp2_with fail
      refine (cmpStr_any _ _ _).mono ?_
      rintro e w1 ⟨rfl, rfl⟩
      go_wp2_with fail
      go_ret
      exact ⟨ret_i HR.out.symm, hq.trans ⟨n1 + n2, rfl⟩⟩

end Go.Proofs.YtkeledbgmpienaaGreat
