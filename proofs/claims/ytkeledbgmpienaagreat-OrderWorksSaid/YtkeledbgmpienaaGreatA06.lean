/- order: Plan. -/
import Derived.Test.YtkeledbgmpienaaGreatA05
import Derived.Maps.RangeWalk
import Derived.Sort.KeysCollected
import Derived.Handy
import Derived.Deep.RegionHeld3
import Derived.Maps.OwnSet

namespace Go.Proofs.YtkeledbgmpienaaGreat
open Go.RowKit Go.WideShapes Go.ChangeShapes Go.ChangeAt

def keepB (x : CV) : Bool := !remB x && restB x
def planS (l : List CV) : List CV := ((sortC ltC l).filter remB).reverse ++ (sortC ltC l).filter keepB
theorem filter_take {α : Type} {f : α → Bool} {l : List α} {i : Nat} {x : α} (hi : i < l.length) (hx : l[i] = x) : (l.take (i + 1)).filter f = (l.take i).filter f ++ (if f x = true then [x] else []) := by
  rw [List.take_succ_eq_append_getElem hi, List.filter_append, hx, List.filter_cons]
  split <;> rfl

set_option maxRecDepth 100000 in
set_option maxHeartbeats 2000000 in
theorem orderPlan_any (m : Nat) (hS : SortsC m) (hm : m ≤ 1000) (A : Option Addr) (c : Nat) (l : List CV) (Z : Nat → Prop) (w : World) (h : Rd w Z 9 A l.length (l.flatMap CV.cells)) (hp : ∀ x ∈ l, x.p.size ≤ 140737488355328) (hl : l.length ≤ m) :
    Calls Tryz.prog 14 #[.slice A l.length c] w fun e w' => ∃ (A' : Option Addr) (c' : Nat), e = .returned (.slice A' (planS l).length c') ∧ RowC w' w.heap.size A' c' (planS l) ∧ Below w.heap.size w w' := by
  obtain ⟨i0, hi0, hz0, hz1, hz2⟩ := info_parts ch_info
  have HC := Lib.hid (cloneC_any A c l Z w h (by omega))
  have HP := Lib.hid hp
  obtain ⟨S, hSd⟩ : ∃ S, S = sortC ltC l := ⟨_, rfl⟩
  have hSl : S.length = l.length := by rw [hSd]; exact sortC_len l
  have HSM : Hid (∀ x ∈ S, x ∈ l) := Lib.hid (fun x hx => by rw [hSd] at hx; exact sortC_mem.1 hx)
  obtain ⟨PP, hR⟩ : ∃ PP, PP = planS l := ⟨_, rfl⟩
  have HR0 : Hid (PP = (S.filter remB).reverse ++ S.filter keepB) := Lib.hid (by rw [hR, hSd]; rfl)
  rw [← hR]
  clear h hp hR
  go_enter Tryz.func14, Tryz.ntmps14
  go_wp2_with fail
  refine HC.out.mono ?_
  rintro e w1 ⟨A1, c1, rfl, hr1, hb1⟩
  have hr1' : RowC w1 w.heap.size A1 c1 l := hr1
  have HSO := Lib.hid (hS A1 c1 w.heap.size l w1 hr1' HP.out hl)
  have hlt1 := hr1'.lt
  clear hr1 hr1' HC
  go_wp2_with fail
  refine HSO.out.mono ?_
  rintro e w2 ⟨rfl, hr2, hf2⟩
  have hw2 : Below w.heap.size w w2 := hb1.trans (hf2.below hb1.size (fun k hk e => by have := (hlt1 k e).1; omega))
  rw [← hSd] at hr2
  have HRS := Lib.hid hr2
  have hSl2 := Lib.hid hSl
  have hl2 : S.length ≤ 1000 := by omega
  have hs2 := hw2.size
  clear hr2 hf2 HSO hlt1 hSd
  rw [← hSl]
  clear hSl hl
  go_wp2_with fail
  go_loopw [4, 5, 14] (fun gv rv iv wr => ∃ (i : Nat) (AG : Option Addr) (cG : Nat) (G : List CV) (AR : Option Addr) (cR : Nat) (Rr : List CV), i ≤ S.length ∧ iv = .int .i64 (i : Int) ∧ gv = .slice AG G.length cG ∧ rv = .slice AR Rr.length cR ∧ Hid (G = (S.take i).filter remB) ∧ Hid (Rr = (S.take i).filter keepB) ∧ RowC wr w2.heap.size AG cG G ∧ RowC wr w2.heap.size AR cR Rr ∧ Hid (∀ b, ablk AG = some b → ablk AR ≠ some b) ∧ Below w2.heap.size w2 wr) (fun _ _ iv _ => S.length - (intOf iv).toNat)
  case atStart => exact ⟨0, none, 0, [], none, 0, [], Nat.zero_le _, rfl, rfl, rfl, Lib.hid rfl, Lib.hid rfl, Row.none_ _ _ _ _, Row.none_ _ _ _ _, Lib.hid (fun b e => by cases e), Below.refl _ _⟩
  case round =>
    obtain ⟨i, AG, cG, G, AR, cR, R', hi, rfl, rfl, rfl, hG, hRr, hrG, hrR, hdis, hb⟩ := hrel
    obtain ⟨R, hRR⟩ : ∃ R, R = R' := ⟨_, rfl⟩
    subst hRR
    have hGl : G.length ≤ i := by
      rw [hG.out]; have h1 := List.length_filter_le remB (S.take i); rw [List.length_take] at h1; omega
    have hRl : R.length ≤ i := by
      rw [hRr.out]; have h1 := List.length_filter_le keepB (S.take i); rw [List.length_take] at h1; omega
    by_cases hlt : i < S.length
    · obtain ⟨x, hx⟩ : ∃ x, x = S[i] := ⟨_, rfl⟩
      obtain ⟨b, off, rfl, _, hbb, at1⟩ := ch_at (HRS.out.rd.below hb) hlt
      rw [← hx] at at1
      have HG1 : Hid ((S.take (i + 1)).filter remB = G ++ (if remB x = true then [x] else [])) := Lib.hid (by rw [filter_take hlt hx.symm, ← hG.out])
      have HR1 : Hid ((S.take (i + 1)).filter keepB = R ++ (if keepB x = true then [x] else [])) := Lib.hid (by rw [filter_take hlt hx.symm, ← hRr.out])
      have hba : Below wr.heap.size wr (wr.alloc (.cells #[.string x.p, .int .i64 x.b, .bool x.m, .bool x.t, .int .i64 x.k, .int .i64 x.o, .int .i64 x.s, .int .i64 x.l, .int .i64 x.v] 47)) := (Below.refl _ _).alloc (Nat.le_refl _) _
      have bc : Blk (wr.alloc (.cells #[.string x.p, .int .i64 x.b, .bool x.m, .bool x.t, .int .i64 x.k, .int .i64 x.o, .int .i64 x.s, .int .i64 x.l, .int .i64 x.v] 47)) wr.heap.size 47 x.cells.toArray := Blk.new wr _ _
      have hr3 := hb.trans (hba.mono hb.size)
      replace hrG := hrG.below hba
      replace hrR := hrR.below hba
      obtain ⟨a0, a1, a2, a3, a4, a5, a6, a7, a8⟩ := at1
      clear hx hG hRr
      go_upto_region 7 with (fail)
      obtain ⟨zb, hzb⟩ : ∃ zb, zb = wr.heap.size := ⟨_, rfl⟩
      rw [← hzb] at bc ⊢
      clear hzb hba a0 a1 a2 a3 a4 a5 a6 a7 a8
      generalize wr.alloc (.cells #[.string x.p, .int .i64 x.b, .bool x.m, .bool x.t, .int .i64 x.k, .int .i64 x.o, .int .i64 x.s, .int .i64 x.l, .int .i64 x.v] 47) = w3 at *
      obtain ⟨q0, q1, q2, q3, q4, q5, q6, q7, q8⟩ := cells9 bc
      go_wp2_with fail
      refine (removes_any x w3).mono ?_
      rintro e w4 ⟨rfl, hb4⟩
      have hr4 := hr3.trans (hb4.mono hr3.size)
      replace hrG := hrG.below hb4
      replace hrR := hrR.below hb4
      replace bc := bc.below hb4
      clear q0 q1 q2 q3 q4 q5 q6 q7 q8 hb4
      obtain ⟨q0, q1, q2, q3, q4, q5, q6, q7, q8⟩ := cells9 bc
      rcases hrm : remB x with _ | _
      · have HKB : Hid (keepB x = restB x) := Lib.hid (by unfold keepB; rw [hrm]; rfl)
        have HGA : Hid ((S.take (i + 1)).filter remB = G) := Lib.hid (by rw [HG1.out, hrm]; simp)
        obtain ⟨M, hM⟩ : ∃ M, M = movesB x.v := ⟨_, rfl⟩
        have HMV := Lib.hid (omoves_any x.p x.b x.m x.t x.k x.o x.s x.l x.v w4)
        rw [← hM] at HMV
        go_wp2_with fail
        refine HMV.out.mono ?_
        rintro e w5 ⟨rfl, hb5⟩
        have hr5 := hr4.trans (hb5.mono hr4.size)
        replace hrG := hrG.below hb5
        replace hrR := hrR.below hb5
        replace bc := bc.below hb5
        clear q0 q1 q2 q3 q4 q5 q6 q7 q8 hb5 HMV
        obtain ⟨q0, q1, q2, q3, q4, q5, q6, q7, q8⟩ := cells9 bc
        rcases hk : keepB x with _ | _
        · have HRA : Hid ((S.take (i + 1)).filter keepB = R) := Lib.hid (by rw [HR1.out, hk]; simp)
          have hrs : (movesB x.v || x.v == 3) = false := by rw [← hk, HKB.out]; rfl
          rw [← hM, Bool.or_eq_false_iff] at hrs
          obtain ⟨rfl, h3⟩ := hrs
          clear hM
          have HrG := Lib.hid hrG
          have HrR := Lib.hid hrR
          clear hrG hrR
          go_wp2_with fail
          go_roundw
          case rel => exact ⟨i + 1, AG, cG, G, AR, cR, R, hlt, by go_num, rfl, rfl, Lib.hid HGA.out.symm, Lib.hid HRA.out.symm, HrG.out, HrR.out, hdis, hr5⟩
          case measure => simp [intOf]; omega
        · have HRA : Hid ((S.take (i + 1)).filter keepB = R ++ [x]) := Lib.hid (by rw [HR1.out, hk]; simp)
          have hrs : (movesB x.v || x.v == 3) = true := by rw [← hk, HKB.out]; rfl
          rw [← hM] at hrs
          clear hM
          rcases M with _ | _
          · rw [Bool.false_or] at hrs
            have HRD : Hid (Rd (w5.alloc (.cells #[.string x.p, .int .i64 x.b, .bool x.m, .bool x.t, .int .i64 x.k, .int .i64 x.o, .int .i64 x.s, .int .i64 x.l, .int .i64 x.v] 47)) (fun b => w5.heap.size ≤ b) 9 (some ⟨w5.heap.size, 0, none⟩) 1 (CV.cells x)) := Lib.hid (Rd.lit rfl rfl rfl)
            have hba5 : Below w5.heap.size w5 (w5.alloc (.cells #[.string x.p, .int .i64 x.b, .bool x.m, .bool x.t, .int .i64 x.k, .int .i64 x.o, .int .i64 x.s, .int .i64 x.l, .int .i64 x.v] 47)) := (Below.refl _ _).alloc (Nat.le_refl _) _
            have HRG := Lib.hid (hrG.below hba5)
            have HRR := Lib.hid (hrR.below hba5)
            have hr6 := hr5.trans (hba5.mono hr5.size)
            have hsz := hr6.size
            clear hrG hrR hba5
            go_wp2_with (at_builtin; refine wpList_append_row _ rfl (.tmp 33) (.tmp 35) 42 rfl w2.heap.size 47 i0 _ 9 72 Tryz.underlying42 hi0 hz0 hz1 hz2 rfl (by omega) rfl HRR.out rfl HRD.out (fun u hu => ch_one [x] u (by simpa using hu)) (by simp only [maxLen]; omega) (by omega) hsz ?_; intro A7 c7 w7 h71 h72 h73)
            have hf7 : Fr (fun b => ablk AR = some b) (w5.alloc (.cells #[.string x.p, .int .i64 x.b, .bool x.m, .bool x.t, .int .i64 x.k, .int .i64 x.o, .int .i64 x.s, .int .i64 x.l, .int .i64 x.v] 47)) w7 := Fr.of_grown h72 (fun _ _ e => e)
            have hr7 : Below w2.heap.size w2 w7 := hr6.trans (hf7.below hsz (fun k hk e => by have := (HRR.out.lt k e).1; omega))
            have HNEW : Hid (RowC w7 w2.heap.size A7 c7 (R ++ [x])) := Lib.hid (by
              unfold RowC
              rw [List.length_append, List.flatMap_append, List.flatMap_cons, List.flatMap_nil, List.append_nil]; exact h71)
            have HOLD : Hid (RowC w7 w2.heap.size AG cG G) := Lib.hid (HRG.out.fr hf7 (fun b e1 e2 => hdis.out b e1 e2))
            have HDIS : Hid (∀ b, ablk AG = some b → ablk A7 ≠ some b) := Lib.hid (fun b e1 e2 => by
              rcases h73 b e2 with e | e
              · exact hdis.out b e1 e
              · have := (HRG.out.lt b e1).2; omega)
            clear h71 h72 h73 hf7 HRG HRR HRD
            go_wp2_with fail
            go_roundw
            case rel => exact ⟨i + 1, AG, cG, G, A7, c7, R ++ [x], hlt, by go_num, rfl, by rw [List.length_append]; rfl, Lib.hid HGA.out.symm, Lib.hid HRA.out.symm, HOLD.out, HNEW.out, HDIS, hr7⟩
            case measure => simp [intOf]; omega
          · clear hrs
            have HRD : Hid (Rd (w5.alloc (.cells #[.string x.p, .int .i64 x.b, .bool x.m, .bool x.t, .int .i64 x.k, .int .i64 x.o, .int .i64 x.s, .int .i64 x.l, .int .i64 x.v] 47)) (fun b => w5.heap.size ≤ b) 9 (some ⟨w5.heap.size, 0, none⟩) 1 (CV.cells x)) := Lib.hid (Rd.lit rfl rfl rfl)
            have hba5 : Below w5.heap.size w5 (w5.alloc (.cells #[.string x.p, .int .i64 x.b, .bool x.m, .bool x.t, .int .i64 x.k, .int .i64 x.o, .int .i64 x.s, .int .i64 x.l, .int .i64 x.v] 47)) := (Below.refl _ _).alloc (Nat.le_refl _) _
            have HRG := Lib.hid (hrG.below hba5)
            have HRR := Lib.hid (hrR.below hba5)
            have hr6 := hr5.trans (hba5.mono hr5.size)
            have hsz := hr6.size
            clear hrG hrR hba5
            go_wp2_with (at_builtin; refine wpList_append_row _ rfl (.tmp 33) (.tmp 35) 42 rfl w2.heap.size 47 i0 _ 9 72 Tryz.underlying42 hi0 hz0 hz1 hz2 rfl (by omega) rfl HRR.out rfl HRD.out (fun u hu => ch_one [x] u (by simpa using hu)) (by simp only [maxLen]; omega) (by omega) hsz ?_; intro A7 c7 w7 h71 h72 h73)
            have hf7 : Fr (fun b => ablk AR = some b) (w5.alloc (.cells #[.string x.p, .int .i64 x.b, .bool x.m, .bool x.t, .int .i64 x.k, .int .i64 x.o, .int .i64 x.s, .int .i64 x.l, .int .i64 x.v] 47)) w7 := Fr.of_grown h72 (fun _ _ e => e)
            have hr7 : Below w2.heap.size w2 w7 := hr6.trans (hf7.below hsz (fun k hk e => by have := (HRR.out.lt k e).1; omega))
            have HNEW : Hid (RowC w7 w2.heap.size A7 c7 (R ++ [x])) := Lib.hid (by
              unfold RowC
              rw [List.length_append, List.flatMap_append, List.flatMap_cons, List.flatMap_nil, List.append_nil]; exact h71)
            have HOLD : Hid (RowC w7 w2.heap.size AG cG G) := Lib.hid (HRG.out.fr hf7 (fun b e1 e2 => hdis.out b e1 e2))
            have HDIS : Hid (∀ b, ablk AG = some b → ablk A7 ≠ some b) := Lib.hid (fun b e1 e2 => by
              rcases h73 b e2 with e | e
              · exact hdis.out b e1 e
              · have := (HRG.out.lt b e1).2; omega)
            clear h71 h72 h73 hf7 HRG HRR HRD
            go_wp2_with fail
            go_roundw
            case rel => exact ⟨i + 1, AG, cG, G, A7, c7, R ++ [x], hlt, by go_num, rfl, by rw [List.length_append]; rfl, Lib.hid HGA.out.symm, Lib.hid HRA.out.symm, HOLD.out, HNEW.out, HDIS, hr7⟩
            case measure => simp [intOf]; omega
      · have HGA : Hid ((S.take (i + 1)).filter remB = G ++ [x]) := Lib.hid (by rw [HG1.out, hrm]; simp)
        have HRA : Hid ((S.take (i + 1)).filter keepB = R) := Lib.hid (by rw [HR1.out, show keepB x = false by unfold keepB; rw [hrm]; rfl]; simp)
        have hr5 := hr4
        obtain ⟨w5, hw5⟩ : ∃ w5, w5 = w4 := ⟨_, rfl⟩
        subst hw5
        have HRD : Hid (Rd (w5.alloc (.cells #[.string x.p, .int .i64 x.b, .bool x.m, .bool x.t, .int .i64 x.k, .int .i64 x.o, .int .i64 x.s, .int .i64 x.l, .int .i64 x.v] 47)) (fun b => w5.heap.size ≤ b) 9 (some ⟨w5.heap.size, 0, none⟩) 1 (CV.cells x)) := Lib.hid (Rd.lit rfl rfl rfl)
        have hba5 : Below w5.heap.size w5 (w5.alloc (.cells #[.string x.p, .int .i64 x.b, .bool x.m, .bool x.t, .int .i64 x.k, .int .i64 x.o, .int .i64 x.s, .int .i64 x.l, .int .i64 x.v] 47)) := (Below.refl _ _).alloc (Nat.le_refl _) _
        have HRG := Lib.hid (hrG.below hba5)
        have HRR := Lib.hid (hrR.below hba5)
        have hr6 := hr5.trans (hba5.mono hr5.size)
        have hsz := hr6.size
        clear hrG hrR hba5
        go_wp2_with (at_builtin; refine wpList_append_row _ rfl (.tmp 21) (.tmp 23) 42 rfl w2.heap.size 47 i0 _ 9 72 Tryz.underlying42 hi0 hz0 hz1 hz2 rfl (by omega) rfl HRG.out rfl HRD.out (fun u hu => ch_one [x] u (by simpa using hu)) (by simp only [maxLen]; omega) (by omega) hsz ?_; intro A7 c7 w7 h71 h72 h73)
        have hf7 : Fr (fun b => ablk AG = some b) (w5.alloc (.cells #[.string x.p, .int .i64 x.b, .bool x.m, .bool x.t, .int .i64 x.k, .int .i64 x.o, .int .i64 x.s, .int .i64 x.l, .int .i64 x.v] 47)) w7 := Fr.of_grown h72 (fun _ _ e => e)
        have hr7 : Below w2.heap.size w2 w7 := hr6.trans (hf7.below hsz (fun k hk e => by have := (HRG.out.lt k e).1; omega))
        have HNEW : Hid (RowC w7 w2.heap.size A7 c7 (G ++ [x])) := Lib.hid (by
          unfold RowC
          rw [List.length_append, List.flatMap_append, List.flatMap_cons, List.flatMap_nil, List.append_nil]; exact h71)
        have HOLD : Hid (RowC w7 w2.heap.size AR cR R) := Lib.hid (HRR.out.fr hf7 (fun b e1 e2 => hdis.out b e2 e1))
        have HDIS : Hid (∀ b, ablk A7 = some b → ablk AR ≠ some b) := Lib.hid (fun b e1 e2 => by
          rcases h73 b e1 with e | e
          · exact hdis.out b e e2
          · have := (HRR.out.lt b e2).2; omega)
        clear h71 h72 h73 hf7 HRG HRR HRD
        go_wp2_with fail
        go_roundw
        case rel => exact ⟨i + 1, A7, c7, G ++ [x], AR, cR, R, hlt, by go_num, by rw [List.length_append]; rfl, rfl, Lib.hid HGA.out.symm, Lib.hid HRA.out.symm, HNEW.out, HOLD.out, HDIS, hr7⟩
        case measure => simp [intOf]; omega
    · have e : i = S.length := by omega
      subst e
      rw [List.take_length] at hG hRr
      have HRV := Lib.hid (revC_any AG cG w2.heap.size G wr hrG (by omega))
      have hltG := hrG.lt
      have hltR := hrR.lt
      clear hrG
      go_wp2_with fail
      refine HRV.out.mono ?_
      rintro e w3 ⟨rfl, hr3, hf3⟩
      have hr3b : Below w2.heap.size w2 w3 := hb.trans (hf3.below hb.size (fun k hk e => by have := (hltG k e).1; omega))
      have hrR3 := hrR.fr hf3 (fun b e1 e2 => hdis.out b e2 e1)
      have HR3 : Hid (Row w3 w2.heap.size 47 9 AG G.length cG (G.reverse.flatMap CV.cells)) := Lib.hid (by rw [← List.length_reverse]; exact hr3)
      have HRD : Hid (Rd w3 (fun b => ablk AR = some b) 9 AR R.length (R.flatMap CV.cells)) := Lib.hid hrR3.rd
      have hsz := hr3b.size
      clear hr3 hf3 hrR hrR3 HRV hltG hltR
      go_wp2_with (at_builtin; refine wpList_append_row _ rfl (.tmp 40) (.tmp 41) 42 rfl w2.heap.size 47 i0 _ 9 72 Tryz.underlying42 hi0 hz0 hz1 hz2 rfl (by omega) rfl HR3.out rfl HRD.out (ch_one R) (by simp only [maxLen]; omega) (by omega) hsz ?_; intro A7 c7 w7 h71 h72 h73)
      have hr7 : Below w2.heap.size w2 w7 := hr3b.trans ((Fr.of_grown h72 (S := fun b => ablk AG = some b) (fun _ _ e => e)).below hsz (fun k hk e => by have := (HR3.out.lt k e).1; omega))
      have HLL : Hid (G.length + R.length = (G.reverse ++ R).length) := Lib.hid (by rw [List.length_append, List.length_reverse])
      have HEQ : Hid (G.reverse ++ R = (S.filter remB).reverse ++ S.filter keepB) := Lib.hid (by rw [hG.out, hRr.out])
      have HFIN : Hid (RowC w7 w.heap.size A7 c7 (G.reverse ++ R)) := Lib.hid (by
        unfold RowC
        rw [← HLL.out, List.flatMap_append]
        exact h71.rebase (fun g hg => by have := (h71.lt g hg).1; omega))
      have hw7 := hw2.trans (hr7.mono hw2.size)
      clear h71 h72 h73 HR3 HRD
      go_wp2_with fail
      go_ret
      exact ⟨A7, c7, by rw [HLL.out, HEQ.out, ← HR0.out]; rfl, by rw [HR0.out, ← HEQ.out]; exact HFIN.out, hw7⟩

end Go.Proofs.YtkeledbgmpienaaGreat

/- Maps keyed by texts, as rows in the paths' order: whatever the elements are. No program. -/
namespace Go.Proofs.YtkeledbgmpienaaGreat
open Go.Maps (Keyed string_keyed)
open Go.WideShapes Go.MapKept Go.ChangeMaps

/-- an element as it is -/
def heldR : Value → Option (DataW Value × List MemPlace) := fun v => some (.held v, [])
/-- what a map's datum tells at each text is what the row tells -/
def Tells (D : DataW Value) (L : List (List UInt8 × Value)) : Prop := ∀ p z, D.atKey (.string p) z = ((getR L p).map DataW.held).getD z
theorem Tells.has {D : DataW Value} {L : List (List UInt8 × Value)} (h : Tells D L) (p : List UInt8) : Go.Maps.has D (.string p) = (getR L p).isSome := by
  rcases hg : getR L p with _ | v
  · exact Go.Maps.has_false_of_atKey fun z => by rw [h, hg]; rfl
  · exact Go.Maps.has_true_of_atKey (y := .held v) fun z => by rw [h, hg]; rfl
theorem Tells.nil : Tells (.map []) [] := fun _ _ => rfl
theorem Tells.put {D : DataW Value} {L : List (List UInt8 × Value)} (h : Tells D L) (hD : Go.Maps.IsMap D) (p : List UInt8) (v : Value) : Tells (D.put (.string p) (.held v)) (putR L p v) := fun q z => by
  rw [getR_put]
  by_cases hq : q = p
  · subst hq
    rw [if_pos rfl, Go.Maps.atKey_put_same hD (k := .string q) (show WideAt.IsKeyLit (.string q) from trivial)]
    rfl
  · rw [if_neg hq, Go.Maps.atKey_put_other (by simpa using hq), h]
theorem Tells.del {D : DataW Value} {L : List (List UInt8 × Value)} (h : Tells D L) (p : List UInt8) : Tells (D.del (.string p)) (withoutR L p) := fun q z => by
  rw [getR_without]
  by_cases hq : q = p
  · subst hq
    rw [if_pos rfl, Go.Maps.atKey_del_same]
    rfl
  · rw [if_neg hq, Go.Maps.atKey_del_other (by simpa using hq), h]

section
variable {P : Program} {K : TypeId} {w w' : World} {b : Nat} {L : List (List UInt8 × Value)}
/-- block b is a map of type K's keys that has what the row has -/
structure MapAt (w : World) (P : Program) (K : TypeId) (b : Nat) (L : List (List UInt8 × Value)) : Prop where
  sort : SortR L
  own : ∃ D, w.ownsMap P K heldR b L.length D ∧ Tells D L
  len : ∀ x ∈ L, x.1.length ≤ maxLen

theorem own_shrink {H : Type} {R : Value → Option (DataW H × List MemPlace)} {n : Nat} {D : DataW H} (h : w.ownsMap P K R b n D) : w.ownsMap P K R b (Go.Maps.size D) D := by
  obtain ⟨es, clock, hb, F, _, rfl⟩ := h
  exact ⟨es, clock, hb, F, by rw [Go.Maps.size_eq, length_sorted]; simp, rfl⟩
/-- what the datum has are the row's paths -/
theorem own_keys {n : Nat} {D : DataW Value} (h : w.ownsMap P K heldR b n D) (hk : P.underlying K = some .string) (ht : Tells D L) (hs : SortR L) : (keysR L).Perm (strKeys D) ∧ Go.Maps.size D = L.length := by
  have law : Keyed P K := string_keyed hk
  obtain ⟨es, hD, hpw, _⟩ := h.entries law
  obtain ⟨es', hD', hko⟩ := h.keysOf
  obtain rfl : es = es' := by rw [hD] at hD'; simpa using hD'
  have hp : (keysR L).Perm (strKeys D) := by
    rw [hD]
    refine perm_strKeys hpw (fun p hp => by obtain ⟨v, hv⟩ := hko p hp; obtain ⟨x, _, hx, _⟩ := Maps.keyOf_str hk hv; exact ⟨x, hx⟩) hs.nodup fun x => ?_
    rw [← hD, ht.has, getR_isSome]
  refine ⟨hp, ?_⟩
  have := hp.length_eq
  rw [keys_len] at this
  rw [this, hD]
  simp [Go.Maps.size, strKeys]
theorem MapAt.of {n : Nat} {D : DataW Value} (h : w.ownsMap P K heldR b n D) (hk : P.underlying K = some .string) (ht : Tells D L) (hs : SortR L) : MapAt w P K b L := by
  obtain ⟨hp, hz⟩ := own_keys h hk ht hs
  refine ⟨hs, ⟨D, by rw [← hz]; exact own_shrink h, ht⟩, fun x hx => strKeys_le h hk _ (hp.mem_iff.1 (List.mem_map.2 ⟨x, hx, rfl⟩))⟩
theorem MapAt.lt (h : MapAt w P K b L) : b < w.heap.size := by
  obtain ⟨D, h1, _⟩ := h.own
  exact h1.lt
theorem MapAt.kept {row : Option Nat} (h : MapAt w P K b L) (hg : w.grownBy w' row) (hne : some b ≠ row) : MapAt w' P K b L := by
  obtain ⟨D, h1, h2⟩ := h.own
  exact ⟨h.sort, ⟨D, h1.kept hg hne, h2⟩, h.len⟩
theorem MapAt.block (h : MapAt w P K b L) (hb : w'.heap[b]? = w.heap[b]?) : MapAt w' P K b L := by
  obtain ⟨D, ⟨es, clock, h1, r⟩, h2⟩ := h.own
  exact ⟨h.sort, ⟨D, ⟨es, clock, hb.trans h1, r⟩, h2⟩, h.len⟩
/-- a new one -/
theorem MapAt.made (w : World) (P : Program) (K : TypeId) : MapAt (w.alloc (.map #[] 0)) P K w.heap.size [] := ⟨sortR_nil, ⟨_, World.ownsMap_made w P K heldR, Tells.nil⟩, by simp⟩
theorem MapAt.not_cells (h : MapAt w P K b L) {cs : Array Value} {t : TypeId} {f : Nat × Nat} : w.heap[b]? ≠ some (.cells cs t f) := by
  obtain ⟨D, ⟨es, clock, h1, _⟩, _⟩ := h.own
  rw [h1]
  simp

/-- m[k] -/
theorem MapAt.look (h : MapAt w P K b L) (hk : P.underlying K = some .string) {t e : TypeId} (ht : P.underlying t = some (.map K e)) {z : Value} (hz : (zeroValue e).run P w = .ok z w) (p : List UInt8) (hp : p.length ≤ maxLen) :
    (Instr.lookup t (.map (some b)) (.string ⟨⟨p⟩⟩) false).run P w = .ok ((getR L p).getD z) w := by
  obtain ⟨D, h1, h2⟩ := h.own
  obtain ⟨v, ps, hrun, hv⟩ := h1.lookup (string_keyed hk) ht hz (zd := .held z) (zp := []) rfl (Go.WideMaps.keyOf_string_mk hk (s := ⟨⟨p⟩⟩) hp)
  rw [hrun]
  have : DataW.held v = D.atKey (.string p) (.held z) := by simpa [heldR] using congrArg (fun o => o.map Prod.fst) hv
  rw [h2] at this
  congr 1
  rcases hg : getR L p with _ | u
  · rw [hg] at this; simpa using this
  · rw [hg] at this; simpa using this
theorem MapAt.look_ok (h : MapAt w P K b L) (hk : P.underlying K = some .string) {t e : TypeId} (ht : P.underlying t = some (.map K e)) {z : Value} (hz : (zeroValue e).run P w = .ok z w) (p : List UInt8) (hp : p.length ≤ maxLen) :
    (Instr.lookup t (.map (some b)) (.string ⟨⟨p⟩⟩) true).run P w = .ok (.tuple #[(getR L p).getD z, .bool (getR L p).isSome]) w := by
  obtain ⟨D, h1, h2⟩ := h.own
  obtain ⟨v, ps, hrun, hv⟩ := h1.look_ok (string_keyed hk) ht hz (zd := .held z) (zp := []) rfl (Go.WideMaps.keyOf_string_mk hk (s := ⟨⟨p⟩⟩) hp)
  rw [h2.has p] at hrun
  rw [hrun]
  have : DataW.held v = D.atKey (.string p) (.held z) := by simpa [heldR] using congrArg (fun o => o.map Prod.fst) hv
  rw [h2] at this
  have e : v = (getR L p).getD z := by
    rcases hg : getR L p with _ | u
    · rw [hg] at this; simpa using this
    · rw [hg] at this; simpa using this
  rw [e]
/-- m[k] = v -/
theorem MapAt.store (h : MapAt w P K b L) (hk : P.underlying K = some .string) {t e : TypeId} (ht : P.underlying t = some (.map K e)) (p : List UInt8) (hp : p.length ≤ maxLen) (v : Value) (hn : L.length < maxLen) :
    ∃ w', (Instr.mapUpdate t (.map (some b)) (.string ⟨⟨p⟩⟩) v).run P w = .ok () w' ∧ MapAt w' P K b (putR L p v) ∧ w.grownBy w' (some b) ∧ w'.heap.size = w.heap.size := by
  obtain ⟨D, h1, h2⟩ := h.own
  obtain ⟨w', hrun, r1, r2⟩ := h1.store (string_keyed hk) ht hn (Go.WideMaps.keyOf_string_mk hk (s := ⟨⟨p⟩⟩) hp) (val := v) (d := .held v) (ps := []) rfl
  refine ⟨w', hrun, MapAt.of r1 hk (h2.put h1.isMap p v) (h.sort.put p v), r2.grown, ?_⟩
  obtain ⟨_, _, es', clock', _, rfl⟩ := r2
  simp [setBlock]
/-- delete(m, k) -/
theorem MapAt.drop (h : MapAt w P K b L) (hk : P.underlying K = some .string) {t e : TypeId} (ht : P.underlying t = some (.map K e)) (p : List UInt8) (hp : p.length ≤ maxLen) (ty : TypeId) :
    ∃ w', (Builtin.delete_ #[t, K] ty #[.map (some b), .string ⟨⟨p⟩⟩]).run P w = .ok (.tuple #[]) w' ∧ MapAt w' P K b (withoutR L p) ∧ w.grownBy w' (some b) ∧ w'.heap.size = w.heap.size := by
  obtain ⟨D, h1, h2⟩ := h.own
  obtain ⟨w', hrun, r1, r2⟩ := h1.drop (string_keyed hk) ht (Go.WideMaps.keyOf_string_mk hk (s := ⟨⟨p⟩⟩) hp) ty
  refine ⟨w', hrun, MapAt.of r1 hk (h2.del p) (h.sort.without p), r2.grown, ?_⟩
  obtain ⟨_, _, es', clock', _, rfl⟩ := r2
  simp [setBlock]
/-- len(m) -/
theorem MapAt.count (h : MapAt w P K b L) (hk : P.underlying K = some .string) {t e : TypeId} (ht : P.underlying t = some (.map K e)) (ty : TypeId) : (Builtin.len_ #[t] ty #[.map (some b)]).run P w = .ok (.int .i64 L.length) w := by
  obtain ⟨D, h1, h2⟩ := h.own
  rw [h1.len ht ty, (own_keys h1 hk h2 h.sort).2]

/-- 'for k, v := range m' under way: what has come, in the order in which it came; nothing of the row comes twice -/
structure Rng (w : World) (P : Program) (K : TypeId) (b r : Nat) (L : List (List UInt8 × Value)) (seen : List (List UInt8)) (cnt : Nat) : Prop where
  sort : SortR L
  rng : ∃ D left, w.ranges P K heldR b r L.length D left cnt ∧ Tells D L ∧ Collected D left seen
  len : ∀ x ∈ L, x.1.length ≤ maxLen
theorem Rng.at_ {r cnt : Nat} {seen : List (List UInt8)} (h : Rng w P K b r L seen cnt) : MapAt w P K b L := by
  obtain ⟨D, left, h1, h2, _⟩ := h.rng
  exact ⟨h.sort, ⟨D, h1.owns, h2⟩, h.len⟩
theorem Rng.left_eq {r cnt : Nat} {seen : List (List UInt8)} (h : Rng w P K b r L seen cnt) : w.rangeLeft b r = cnt := by
  obtain ⟨D, left, h1, _⟩ := h.rng
  exact h1.left_eq
theorem Rng.lt {r cnt : Nat} {seen : List (List UInt8)} (h : Rng w P K b r L seen cnt) : r < w.heap.size := by
  obtain ⟨D, left, h1, _⟩ := h.rng
  exact h1.lt
theorem Rng.kept {r cnt : Nat} {seen : List (List UInt8)} {row : Option Nat} (h : Rng w P K b r L seen cnt) (hg : w.grownBy w' row) (hb : some b ≠ row) (hr : some r ≠ row) : Rng w' P K b r L seen cnt := by
  obtain ⟨D, left, h1, h2, h3⟩ := h.rng
  exact ⟨h.sort, ⟨D, left, h1.kept hg hb hr, h2, h3⟩, h.len⟩
theorem MapAt.range (h : MapAt w P K b L) (hk : P.underlying K = some .string) {t e : TypeId} (ht : P.underlying t = some (.map K e)) :
    ∃ w', (Instr.range t (.map (some b))).run P w = .ok (.pointer (some ⟨w.heap.size, 0, none⟩)) w' ∧ Rng w' P K b w.heap.size L [] L.length ∧ w.grownBy w' none ∧ w'.heap.size = w.heap.size + 1 := by
  obtain ⟨D, h1, h2⟩ := h.own
  obtain ⟨w', hrun, r1, r2, r3⟩ := h1.range (string_keyed hk) ht
  rw [(own_keys h1 hk h2 h.sort).2] at r1
  exact ⟨w', hrun, ⟨h.sort, ⟨D, _, r1, h2, Collected.start D⟩, h.len⟩, r2, r3⟩
/-- the step: nothing is left, and all has come; or something comes -/
theorem Rng.next {r cnt : Nat} {seen : List (List UInt8)} (h : Rng w P K b r L seen cnt) (hk : P.underlying K = some .string) (ty : TypeId) :
    ((Instr.next (.pointer (some ⟨r, 0, none⟩)) false ty).run P w = .ok (.tuple #[.bool false]) w ∧ cnt = 0 ∧ seen.Nodup ∧ ∀ k, k ∈ seen ↔ k ∈ keysR L) ∨
    ∃ (p : List UInt8) (v : Value) (w' : World) (cnt' : Nat), (p, v) ∈ L ∧ p ∉ seen ∧ (Instr.next (.pointer (some ⟨r, 0, none⟩)) false ty).run P w = .ok (.tuple #[.bool true, .string ⟨⟨p⟩⟩, v]) w' ∧ Rng w' P K b r L (seen ++ [p]) cnt' ∧ cnt' < cnt ∧ w.grownBy w' (some r) ∧ w'.heap.size = w.heap.size ∧
      (Instr.entry (.pointer (some ⟨r, 0, none⟩))).run P w' = .ok (.tuple #[.string ⟨⟨p⟩⟩, v]) w' := by
  obtain ⟨D, left, h1, h2, h3⟩ := h.rng
  rcases h1.next (string_keyed hk) ty with ⟨h0, hl, hrun⟩ | ⟨key, v, kl, y, w', cnt', hkey, hlk, hv, hat, hrun, hrg, hlt, hgr, hsz, hen⟩
  · refine .inl ⟨hrun, h0, h3.1, fun k => ?_⟩
    rw [h3.2 k, h2.has, getR_isSome, hl]
    simp
  · obtain ⟨p, rfl, rfl, hp⟩ := Maps.keyOf_str hk hkey
    obtain rfl : (DataW.held v, []) = y := by simpa [heldR] using hv
    have hg : getR L p = some v := by
      have := hat .nil
      rw [h2] at this
      rcases hq : getR L p with _ | u
      · rw [hq] at this; simp at this
      · rw [hq] at this; simpa using this
    refine .inr ⟨p, v, w', cnt', getR_mem hg, fun hx => ?_, hrun, ⟨h.sort, ⟨D, _, hrg, h2, h3.step hlk hat⟩, h.len⟩, hlt, hgr, hsz, hen⟩
    have := ((h3.2 p).1 hx).2
    rw [hlk] at this
    cases this
end
end Go.Proofs.YtkeledbgmpienaaGreat

/- tenderref03: Paste. -/
namespace Go.Proofs.YtkeledbgmpienaaGreat
open Go.RowKit

theorem take_ne {α : Type} {l : List α} {i : Nat} (h0 : i ≠ 0) (h : 0 < l.length) : l.take i ≠ [] := by
  intro e
  rcases List.take_eq_nil_iff.1 e with h1 | h1
  · exact h0 h1
  · rw [h1] at h; simp at h
theorem drop_ne {α : Type} {l : List α} {i : Nat} (h : i < l.length) : l.drop i ≠ [] := by
  intro e
  have := List.drop_eq_nil_iff.1 e
  omega
theorem paste_take_le : ∀ (l : List (List UInt8)) (i : Nat), (pasteL (l.take i)).length ≤ (pasteL l).length
  | l, i => by
    by_cases h : i = 0
    · subst h; simp [pasteL]
    · by_cases h2 : i < l.length
      · conv => rhs; rw [← List.take_append_drop i l, paste_app _ _ (take_ne h (by omega)) (drop_ne h2)]
        simp
      · rw [List.take_of_length_le (by omega)]; exact Nat.le_refl _
theorem paste_one (x : List UInt8) : pasteL [x] = x := rfl

set_option maxRecDepth 100000 in
set_option maxHeartbeats 1000000 in
theorem paste_any (A : Option Addr) (c : Nat) (l : List (List UInt8)) (Z : Nat → Prop) (w : World) (h : Rd w Z 1 A l.length (l.map stv)) (hn : l.length ≤ 1048576) (hl : (pasteL l).length ≤ 1048576) :
    Calls Tryz.prog 63 #[.slice A l.length c] w fun e w' => ∃ s, e = .returned (.string s) ∧ Hid (tl s = pasteL l) ∧ Qt w w' := by
  go_enter Tryz.func63, Tryz.ntmps63
  go_wp2_with fail
  go_loopw [3, 4] (fun sv iv wr => ∃ (i : Nat) (s : ByteArray), i ≤ l.length ∧ iv = .int .i64 (i : Int) ∧ sv = .string s ∧ Hid (tl s = pasteL (l.take i)) ∧ Qt w wr) (fun _ iv _ => l.length - (intOf iv).toNat)
  case atStart => exact ⟨0, ⟨#[]⟩, Nat.zero_le _, rfl, rfl, rfl, Qt.refl _⟩
  case round =>
    obtain ⟨i, s, hi, rfl, rfl, hs, hq⟩ := hrel
    by_cases hlt : i < l.length
    · obtain ⟨b, off, rfl, _, _, hc⟩ := (h.below hq.below).atm hlt
      have ht := paste_take_le l (i + 1)
      have hts : l.take (i + 1) = l.take i ++ [l[i]] := List.take_succ_eq_append_getElem hlt
      have hss := congrArg List.length hs.out
      rw [tl_len] at hss
      obtain ⟨x, hx⟩ : ∃ x, x = l[i] := ⟨_, rfl⟩
      rw [← hx] at hc hts
      unfold stv at hc
      by_cases h0 : i = 0
      · have hst : s.size = 0 := by rw [hss, h0]; rfl
        have HP : Hid (pasteL (l.take (i + 1)) = x) := by show _ = _; rw [hts, h0]; rfl
        rw [HP.out] at ht
        have hi0 : ¬ (0 : Int) < (i : Int) := by omega
        have b1 : s.size + x.length ≤ 9223372036854775807 := by omega
        have HS : Hid (s = ⟨#[]⟩) := tl_inj (List.length_eq_zero_iff.1 (by rw [tl_len]; exact hst))
        clear hts hx hss ht hs hst h0
        go_wp2_with fail
        go_roundw
        case rel => exact ⟨i + 1, _, hlt, by go_num, rfl, by show _ = _; rw [HP.out, HS.out]; rfl, hq⟩
        case measure => simp [intOf]; omega
      · have h1 : (0 : Int) < (i : Int) := by omega
        have HP : Hid (pasteL (l.take (i + 1)) = tl s ++ 47 :: x) := by
          show _ = _
          rw [hts, paste_app _ _ (take_ne h0 (by omega)) (by simp), hs.out, paste_one]
        rw [HP.out, List.length_append, List.length_cons, tl_len] at ht
        have b1 : s.size + 1 ≤ 9223372036854775807 := by omega
        have b2 : s.size + 1 + x.length ≤ 9223372036854775807 := by omega
        clear hts hx hss ht hs h0
        go_wp2_with fail
        go_roundw
        case rel => exact ⟨i + 1, _, hlt, by go_num, rfl, by show _ = _; rw [HP.out, under_short, under_short, List.append_assoc]; rfl, hq⟩
        case measure => simp [intOf]; omega
    · have HT := Lib.hid (show tl s = pasteL l by rw [hs.out, List.take_of_length_le (by omega)])
      clear hs
      go_wp2_with fail
      go_ret
      exact ⟨s, rfl, HT, hq⟩
end Go.Proofs.YtkeledbgmpienaaGreat

/- name.Parent, Ups; tenderref03.Parent, Ups, Same. -/
namespace Go.Proofs.YtkeledbgmpienaaGreat
open Go.RowKit

/-- the path above -/
def parT (p : List UInt8) : List UInt8 × Bool := if goodB p && decide (1 < (cutL p).length) then (pasteL (cutL p).dropLast, true) else ([], false)
theorem last_ways (s : ByteArray) : (Lib.lastIndexByte s 47 = -1 ∧ cutL (tl s) = [tl s]) ∨
    (∃ i : Nat, Lib.lastIndexByte s 47 = (i : Int) ∧ i < s.size ∧ 1 < (cutL (tl s)).length ∧ pasteL (cutL (tl s)).dropLast = tl (s.extract 0 i)) := by
  have hget : ∀ j, j < s.size → (tl s)[j]? = some (s.data[j]!) := by
    intro j hj
    have hj' : j < s.data.size := hj
    rw [List.getElem?_eq_getElem (by rw [tl_len]; exact hj), getElem!_pos s.data j hj']
    rfl
  rcases Lib.lastIndexByte_spec s 47 with ⟨h, hn⟩ | ⟨i, hi, h, hc, hn⟩
  · refine .inl ⟨h, cutL_none fun c hcm => ?_⟩
    obtain ⟨k, hk, rfl⟩ := List.getElem_of_mem hcm
    have hk' : k < s.size := by rwa [tl_len] at hk
    have := hget k hk'
    rw [List.getElem?_eq_getElem hk] at this
    injection this with this
    intro e
    refine hn k hk' ?_
    rw [← this, e]; rfl
  · have h47 : (tl s)[i]? = some 47 := by rw [hget i hi]; congr 1; exact UInt8.toNat_inj.1 (by rw [show (47 : UInt8).toNat = 47 from rfl]; omega)
    have hsp : tl s = (tl s).take i ++ 47 :: (tl s).drop (i + 1) := by
      conv => lhs; rw [← List.take_append_drop i (tl s)]
      obtain ⟨hlt, he⟩ := List.getElem?_eq_some_iff.1 h47
      rw [List.drop_eq_getElem_cons hlt, he]
    have hno : cutL ((tl s).drop (i + 1)) = [(tl s).drop (i + 1)] := by
      refine cutL_none fun c hcm => ?_
      obtain ⟨k, hk, rfl⟩ := List.getElem_of_mem hcm
      rw [List.getElem_drop]
      have hk' : i + 1 + k < s.size := by rw [List.length_drop, tl_len] at hk; omega
      have := hget _ hk'
      rw [List.getElem?_eq_getElem (by rw [tl_len]; exact hk')] at this
      injection this with this
      intro e
      refine hn (i + 1 + k) (by omega) hk' ?_
      rw [← this, e]; rfl
    refine .inr ⟨i, h, hi, ?_, ?_⟩
    · rw [hsp, cut_app, hno, List.length_append]
      have := cutL_pos ((tl s).take i)
      simp; omega
    · conv => lhs; rw [hsp, cut_app, hno]
      rw [List.dropLast_concat, paste_cut, tl_head]

set_option maxRecDepth 100000 in
set_option maxHeartbeats 400000 in
theorem parent_any (s : ByteArray) (hs : s.size ≤ 1048576) (w : World) : Calls Tryz.prog 67 #[.string s] w fun e w' => ∃ t b, e = .returned (.tuple #[.string t, .bool b]) ∧ Hid ((tl t, b) = parT (tl s)) ∧ Below w.heap.size w w' := by
  obtain ⟨M, hM⟩ : ∃ M, M = parT (tl s) := ⟨_, rfl⟩
  rw [← hM]
  have HX := Lib.hid (fun w => Tryz.strings_LastIndexByte s 47 (by omega) w)
  rcases last_ways s with ⟨h, hx⟩ | ⟨i, h, hi, hx, hp⟩
  · have HM : Hid (M = ([], false)) := by show _ = _; rw [hM]; unfold parT; rw [hx]; simp
    rw [h] at HX
    clear hM h hx
    go_enter Tryz.func67, Tryz.ntmps67
    go_wp2_with fail
    refine (HX.out _).mono ?_
    rintro e w1 ⟨rfl, hw⟩
    subst hw
    go_wp2_with fail
    go_ret2
    exact ⟨_, _, rfl, HM.out.symm, Below.refl _ _⟩
  · rw [h] at HX
    cases hg : goodB (tl s)
    · have HM : Hid (M = ([], false)) := by show _ = _; rw [hM]; unfold parT; rw [hg]; rfl
      have HC := Lib.hid (check_no s (by omega) hg)
      clear hM h hx hg hp
      go_enter Tryz.func67, Tryz.ntmps67
      go_wp2_with fail
      refine (HX.out _).mono ?_
      rintro e w1 ⟨rfl, hw⟩
      subst hw
      go_wp2_with fail
      refine (HC.out _).mono ?_
      rintro e w2 ⟨rfl, hb⟩
      go_wp2_with fail
      go_ret2
      exact ⟨_, _, rfl, HM.out.symm, hb⟩
    · have HM : Hid (M = (tl (s.extract 0 i), true)) := by show _ = _; rw [hM]; unfold parT; rw [hg, decide_eq_true hx, hp]; rfl
      have HC := Lib.hid (check_yes s (by omega) hg)
      have b1 : (i : Int) ≤ (s.size : Int) := by omega
      clear hM h hx hg hp
      go_enter Tryz.func67, Tryz.ntmps67
      go_wp2_with fail
      refine (HX.out _).mono ?_
      rintro e w1 ⟨rfl, hw⟩
      subst hw
      go_wp2_with fail
      refine (HC.out _).mono ?_
      rintro e w2 ⟨rfl, hb⟩
      go_wp2_with fail
      go_ret2
      exact ⟨_, _, rfl, HM.out.symm, hb⟩
set_option maxRecDepth 100000 in
set_option maxHeartbeats 400000 in
theorem refParent_any (s : ByteArray) (hs : s.size ≤ 1048576) (w : World) : Calls Tryz.prog 44 #[.string s] w fun e w' => ∃ t, e = .returned (.string t) ∧ Hid (tl t = (parT (tl s)).1) ∧ Below w.heap.size w w' := by
  obtain ⟨M, hM⟩ : ∃ M, M = (parT (tl s)).1 := ⟨_, rfl⟩
  rw [← hM]
  cases hg : goodB (tl s)
  · have HM : Hid (M = []) := by show _ = _; rw [hM]; unfold parT; rw [hg]; rfl
    have HC := Lib.hid (refGood_no s (by omega) hg)
    clear hM hg
    go_enter Tryz.func44, Tryz.ntmps44
    go_wp2_with fail
    refine (HC.out _).mono ?_
    rintro e w2 ⟨rfl, hb⟩
    go_wp2_with fail
    go_ret
    exact ⟨_, rfl, HM.out.symm, hb⟩
  · have HM : Hid (M = pasteL (cutL (tl s)).dropLast) := by
      show _ = _
      rw [hM]; unfold parT; rw [hg]
      by_cases h : 1 < (cutL (tl s)).length
      · simp [h]
      · have h1 := cutL_pos (tl s)
        have : (cutL (tl s)).dropLast = [] := List.length_eq_zero_iff.1 (by rw [List.length_dropLast]; omega)
        rw [this]; simp [h, pasteL]
    have HC := Lib.hid (refGood_yes s (by omega) hg)
    have hs96 := goodB_len hg
    rw [tl_len] at hs96
    clear hM hg
    go_enter Tryz.func44, Tryz.ntmps44
    go_wp2_with fail
    refine (HC.out _).mono ?_
    rintro e w1 ⟨rfl, hb⟩
    go_wp2_with fail
    refine (refCut_any s (by omega) _).mono ?_
    rintro e w2 ⟨A, c, l, rfl, hl, hst, hb2⟩
    replace hb2 := bthen hb hb2
    rw [← hl.out] at HM
    have hl0 : 0 < l.length := by rw [hl.out]; exact cutL_pos _
    have hll : l.length ≤ 97 := by
      have := cutL_len (tl s)
      rw [hl.out]
      rw [tl_len] at this
      omega
    have hpl : (pasteL l.dropLast).length ≤ 1048576 := by
      have := paste_take_le l (l.length - 1)
      rw [← List.dropLast_eq_take] at this
      have h2 := congrArg (fun x => (pasteL x).length) hl.out
      rw [paste_cut, tl_len] at h2
      omega
    obtain ⟨m, hm⟩ : ∃ m : Nat, l.length = m + 1 := ⟨l.length - 1, by omega⟩
    have hrd := (Sts.rd hst).take (k := m) (by omega)
    have hdl : Hid ((l.map stv).take (m * 1) = l.dropLast.map stv) := by show _ = _; rw [List.dropLast_eq_take, Nat.mul_one, List.map_take, show l.length - 1 = m by omega]
    rw [hdl.out] at hrd
    have hdn : Hid (m = l.dropLast.length) := by show _ = _; rw [List.length_dropLast]; omega
    have hroom := Row.room hst
    have hcap := Row.cap hst
    have hmx : maxLen = 9223372036854775807 := rfl
    rw [hmx] at hcap
    have b0 : (l.length : Int) - 1 = (m : Int) := by omega
    have hw1 : IntKind.i64.wrap ((l.length : Int) - 1) = (m : Int) := by rw [b0]; exact IntWalk.i64_in _ (by omega)
    have b1 : (0 : Int) ≤ (m : Int) := by omega
    have b2 : (m : Int) ≤ (c : Int) := by omega
    have HM1 := Lib.hid hm
    have HRD := Lib.hid hrd
    clear hrd hm hl hdl
    go_wp2_with fail
    rw [hdn.out]
    refine (paste_any A _ l.dropLast _ w2 (by rw [← hdn.out]; exact HRD.out) (by rw [← hdn.out]; omega) hpl).mono ?_
    rintro e w3 ⟨t, rfl, ht, hq⟩
    go_wp2_with fail
    go_ret
    exact ⟨t, rfl, ht.out.trans HM.out.symm, bthen hb2 hq.below⟩

end Go.Proofs.YtkeledbgmpienaaGreat

/- bytes.Clone. -/
namespace Go.Proofs.YtkeledbgmpienaaGreat
open Go.RowKit

theorem clone_any (A : Option Addr) (c : Nat) (l : List UInt8) (Z : Nat → Prop) (w : World) (h : By w Z A l) (hlen : l.length ≤ 140737488355328) :
    Calls Tryz.prog 61 #[.slice A l.length c] w fun e w' => ∃ (A' : Option Addr) (c' : Nat) (l' : List UInt8), e = .returned (.slice A' l'.length c') ∧ Hid (l' = l) ∧ OwB w' w.heap.size (.slice A' l'.length c') l' ∧ Below w.heap.size w w' := by
  rcases A with _ | a
  · have hl : l = [] := by
      rcases l with _ | ⟨x, l⟩
      · rfl
      · obtain ⟨b, off, e, _⟩ := h.2 (by simp); cases e
    subst hl
    refine (Tryz.bytes_Clone_nil 0 c w).mono ?_
    rintro e w' ⟨rfl, rfl⟩
    exact ⟨none, 0, [], rfl, rfl, OwB.nil _ _, Below.refl _ _⟩
  · refine (Tryz.bytes_Clone_at a l.length c (l.map fun x => (x.toNat : Int)) w (by simp) hlen ?_).mono ?_
    · intro i hi
      have hg : (l.map bv)[i]? = some (bv l[i]) := by rw [List.getElem?_map, List.getElem?_eq_getElem hi]; rfl
      obtain ⟨b, off, e, _, _, hc⟩ := Rd.atj h hg
      injection e with e
      subst e
      rw [add_none, hc, List.getD_eq_getElem?_getD, List.getElem?_map, List.getElem?_eq_getElem hi]
      rfl
    · rintro e w' ⟨v, rfl, h1, _, hb⟩
      have ho : OwB w' w.heap.size v l := by
        unfold OwB
        have e2 : (l.map fun x => (x.toNat : Int)).map (Value.int .u8) = l.map bv := by simp [bv, Function.comp_def]
        rw [← e2]
        exact h1
      obtain ⟨A', c', rfl, _⟩ := ho.form
      exact ⟨A', c', l, rfl, rfl, ho, hb⟩

end Go.Proofs.YtkeledbgmpienaaGreat

/- leaf and tenderref07: Check, Same, Size, Clone, OfFile, OfDir, Name. -/
namespace Go.Proofs.YtkeledbgmpienaaGreat
open Go.RowKit

/-- what an answer to 'is a leaf right?' is -/
def checkN (k : Int) (n : Nat) : Int := if k = 1 then (if n ≤ 4096 then 0 else 13) else if k = 0 ∨ k = 2 then (if n = 0 then 0 else 2) else 2
/-- a leaf -/
structure LV where
  k : Int
  x : BV
def LV.cells (o : LV) : List Value := [.int .i64 o.k, .slice o.x.A o.x.l.length o.x.c]
abbrev LV.v (o : LV) : Value := .agg #[.int .i64 o.k, .slice o.x.A o.x.l.length o.x.c]

set_option maxHeartbeats 400000 in
theorem leafCheck_any (k : Int) (A : Option Addr) (n c : Nat) (w : World) (hn : n ≤ 140737488355328) :
    Calls Tryz.prog 65 #[.agg #[.int .i64 k, .slice A n c]] w fun e w' => e = .returned (.int .i64 (checkN k n)) ∧ Below w.heap.size w w' := by
  have h1 : k = 1 → n ≤ 4096 → Hid (checkN k n = 0) := fun h1 h2 => Lib.hid (by unfold checkN; rw [if_pos h1, if_pos h2])
  have h2 : k = 1 → ¬ n ≤ 4096 → Hid (checkN k n = 13) := fun h1 h2 => Lib.hid (by unfold checkN; rw [if_pos h1, if_neg h2])
  have h3 : k ≠ 1 → (k = 0 ∨ k = 2) → n = 0 → Hid (checkN k n = 0) := fun h1 h2 h3 => Lib.hid (by unfold checkN; rw [if_neg h1, if_pos h2, if_pos h3])
  have h4 : k ≠ 1 → (k = 0 ∨ k = 2) → n ≠ 0 → Hid (checkN k n = 2) := fun h1 h2 h3 => Lib.hid (by unfold checkN; rw [if_neg h1, if_pos h2, if_neg h3])
  have h5 : k ≠ 1 → ¬ (k = 0 ∨ k = 2) → Hid (checkN k n = 2) := fun h1 h2 => Lib.hid (by unfold checkN; rw [if_neg h1, if_neg h2])
  generalize checkN k n = r at *
  by_cases k1 : k = 1
  · by_cases hs : n ≤ 4096
    · have hr := h1 k1 hs
      clear h1 h2 h3 h4 h5
      subst k1
      go_enter Tryz.func65, Tryz.ntmps65
      go_wp2_with fail
      go_ret
      exact ⟨by rw [hr.out]; rfl, (by repeat (first | exact Below.refl _ _ | refine Below.alloc ?_ (by simp) _ | refine Below.setCell ?_ (by simp) _ | refine Below.drew ?_))⟩
    · have hr := h2 k1 hs
      clear h1 h2 h3 h4 h5
      subst k1
      go_enter Tryz.func65, Tryz.ntmps65
      go_wp2_with fail
      go_ret
      exact ⟨by rw [hr.out]; rfl, (by repeat (first | exact Below.refl _ _ | refine Below.alloc ?_ (by simp) _ | refine Below.setCell ?_ (by simp) _ | refine Below.drew ?_))⟩
  · have k1b : (k == 1) = false := by simpa using k1
    by_cases k0 : k = 0
    · by_cases hs : n = 0
      · have hr := h3 k1 (.inl k0) hs
        clear h1 h2 h3 h4 h5
        subst k0
        subst hs
        go_enter Tryz.func65, Tryz.ntmps65
        go_wp2_with fail
        go_ret
        exact ⟨by rw [hr.out]; rfl, (by repeat (first | exact Below.refl _ _ | refine Below.alloc ?_ (by simp) _ | refine Below.setCell ?_ (by simp) _ | refine Below.drew ?_))⟩
      · have hr := h4 k1 (.inl k0) hs
        clear h1 h2 h3 h4 h5
        subst k0
        go_enter Tryz.func65, Tryz.ntmps65
        go_wp2_with fail
        go_ret
        exact ⟨by rw [hr.out]; rfl, (by repeat (first | exact Below.refl _ _ | refine Below.alloc ?_ (by simp) _ | refine Below.setCell ?_ (by simp) _ | refine Below.drew ?_))⟩
    · have k0b : (k == 0) = false := by simpa using k0
      by_cases k2 : k = 2
      · by_cases hs : n = 0
        · have hr := h3 k1 (.inr k2) hs
          clear h1 h2 h3 h4 h5
          subst k2
          subst hs
          go_enter Tryz.func65, Tryz.ntmps65
          go_wp2_with fail
          go_ret
          exact ⟨by rw [hr.out]; rfl, (by repeat (first | exact Below.refl _ _ | refine Below.alloc ?_ (by simp) _ | refine Below.setCell ?_ (by simp) _ | refine Below.drew ?_))⟩
        · have hr := h4 k1 (.inr k2) hs
          clear h1 h2 h3 h4 h5
          subst k2
          go_enter Tryz.func65, Tryz.ntmps65
          go_wp2_with fail
          go_ret
          exact ⟨by rw [hr.out]; rfl, (by repeat (first | exact Below.refl _ _ | refine Below.alloc ?_ (by simp) _ | refine Below.setCell ?_ (by simp) _ | refine Below.drew ?_))⟩
      · have k2b : (k == 2) = false := by simpa using k2
        have hr := h5 k1 (fun h => h.elim k0 k2)
        clear h1 h2 h3 h4 h5
        by_cases g0 : k < 0
        · go_enter Tryz.func65, Tryz.ntmps65
          go_wp2_with fail
          go_ret
          exact ⟨by rw [hr.out]; rfl, (by repeat (first | exact Below.refl _ _ | refine Below.alloc ?_ (by simp) _ | refine Below.setCell ?_ (by simp) _ | refine Below.drew ?_))⟩
        · have g2 : 2 < k := by omega
          go_enter Tryz.func65, Tryz.ntmps65
          go_wp2_with fail
          go_ret
          exact ⟨by rw [hr.out]; rfl, (by repeat (first | exact Below.refl _ _ | refine Below.alloc ?_ (by simp) _ | refine Below.setCell ?_ (by simp) _ | refine Below.drew ?_))⟩

set_option maxHeartbeats 400000 in
theorem leafCheckR_any (k : Int) (A : Option Addr) (n c : Nat) (w : World) (hn : n ≤ 140737488355328) :
    Calls Tryz.prog 41 #[.agg #[.int .i64 k, .slice A n c]] w fun e w' => e = .returned (.int .i64 (checkN k n)) ∧ Below w.heap.size w w' := by
  have h1 : k = 1 → n ≤ 4096 → Hid (checkN k n = 0) := fun h1 h2 => Lib.hid (by unfold checkN; rw [if_pos h1, if_pos h2])
  have h2 : k = 1 → ¬ n ≤ 4096 → Hid (checkN k n = 13) := fun h1 h2 => Lib.hid (by unfold checkN; rw [if_pos h1, if_neg h2])
  have h3 : k ≠ 1 → (k = 0 ∨ k = 2) → n = 0 → Hid (checkN k n = 0) := fun h1 h2 h3 => Lib.hid (by unfold checkN; rw [if_neg h1, if_pos h2, if_pos h3])
  have h4 : k ≠ 1 → (k = 0 ∨ k = 2) → n ≠ 0 → Hid (checkN k n = 2) := fun h1 h2 h3 => Lib.hid (by unfold checkN; rw [if_neg h1, if_pos h2, if_neg h3])
  have h5 : k ≠ 1 → ¬ (k = 0 ∨ k = 2) → Hid (checkN k n = 2) := fun h1 h2 => Lib.hid (by unfold checkN; rw [if_neg h1, if_neg h2])
  generalize checkN k n = r at *
  by_cases k1 : k = 1
  · by_cases hs : n ≤ 4096
    · have hr := h1 k1 hs
      clear h1 h2 h3 h4 h5
      subst k1
      go_enter Tryz.func41, Tryz.ntmps41
      go_wp2_with fail
      go_ret
      exact ⟨by rw [hr.out]; rfl, (by repeat (first | exact Below.refl _ _ | refine Below.alloc ?_ (by simp) _ | refine Below.setCell ?_ (by simp) _ | refine Below.drew ?_))⟩
    · have hr := h2 k1 hs
      clear h1 h2 h3 h4 h5
      subst k1
      go_enter Tryz.func41, Tryz.ntmps41
      go_wp2_with fail
      go_ret
      exact ⟨by rw [hr.out]; rfl, (by repeat (first | exact Below.refl _ _ | refine Below.alloc ?_ (by simp) _ | refine Below.setCell ?_ (by simp) _ | refine Below.drew ?_))⟩
  · have k1b : (k == 1) = false := by simpa using k1
    by_cases k0 : k = 0
    · by_cases hs : n = 0
      · have hr := h3 k1 (.inl k0) hs
        clear h1 h2 h3 h4 h5
        subst k0
        subst hs
        go_enter Tryz.func41, Tryz.ntmps41
        go_wp2_with fail
        go_ret
        exact ⟨by rw [hr.out]; rfl, (by repeat (first | exact Below.refl _ _ | refine Below.alloc ?_ (by simp) _ | refine Below.setCell ?_ (by simp) _ | refine Below.drew ?_))⟩
      · have hr := h4 k1 (.inl k0) hs
        clear h1 h2 h3 h4 h5
        subst k0
        go_enter Tryz.func41, Tryz.ntmps41
        go_wp2_with fail
        go_ret
        exact ⟨by rw [hr.out]; rfl, (by repeat (first | exact Below.refl _ _ | refine Below.alloc ?_ (by simp) _ | refine Below.setCell ?_ (by simp) _ | refine Below.drew ?_))⟩
    · have k0b : (k == 0) = false := by simpa using k0
      by_cases k2 : k = 2
      · by_cases hs : n = 0
        · have hr := h3 k1 (.inr k2) hs
          clear h1 h2 h3 h4 h5
          subst k2
          subst hs
          go_enter Tryz.func41, Tryz.ntmps41
          go_wp2_with fail
          go_ret
          exact ⟨by rw [hr.out]; rfl, (by repeat (first | exact Below.refl _ _ | refine Below.alloc ?_ (by simp) _ | refine Below.setCell ?_ (by simp) _ | refine Below.drew ?_))⟩
        · have hr := h4 k1 (.inr k2) hs
          clear h1 h2 h3 h4 h5
          subst k2
          go_enter Tryz.func41, Tryz.ntmps41
          go_wp2_with fail
          go_ret
          exact ⟨by rw [hr.out]; rfl, (by repeat (first | exact Below.refl _ _ | refine Below.alloc ?_ (by simp) _ | refine Below.setCell ?_ (by simp) _ | refine Below.drew ?_))⟩
      · have k2b : (k == 2) = false := by simpa using k2
        have hr := h5 k1 (fun h => h.elim k0 k2)
        clear h1 h2 h3 h4 h5
        by_cases g0 : k < 0
        · go_enter Tryz.func41, Tryz.ntmps41
          go_wp2_with fail
          go_ret
          exact ⟨by rw [hr.out]; rfl, (by repeat (first | exact Below.refl _ _ | refine Below.alloc ?_ (by simp) _ | refine Below.setCell ?_ (by simp) _ | refine Below.drew ?_))⟩
        · have g2 : 2 < k := by omega
          go_enter Tryz.func41, Tryz.ntmps41
          go_wp2_with fail
          go_ret
          exact ⟨by rw [hr.out]; rfl, (by repeat (first | exact Below.refl _ _ | refine Below.alloc ?_ (by simp) _ | refine Below.setCell ?_ (by simp) _ | refine Below.drew ?_))⟩

set_option maxHeartbeats 400000 in
theorem leafSameR_any (k j : Int) (A B : Option Addr) (c d : Nat) (l m : List UInt8) (Z Z' : Nat → Prop) (w : World) (hl : By w Z A l) (hm : By w Z' B m) :
    Calls Tryz.prog 10 #[.agg #[.int .i64 k, .slice A l.length c], .agg #[.int .i64 j, .slice B m.length d]] w fun e w' => e = .returned (.bool (k == j && l == m)) ∧ Below w.heap.size w w' := by
  have k1 := conv_by ((hl.alloc (.cells #[.int .i64 k, .slice A l.length c] 35)).alloc (.cells #[.int .i64 j, .slice B m.length d] 35)) c
  have k2 := conv_by ((hm.alloc (.cells #[.int .i64 k, .slice A l.length c] 35)).alloc (.cells #[.int .i64 j, .slice B m.length d] 35)) d
  by_cases hk : k = j
  · have e1 := Lib.hid (show (k == j && l == m) = (l == m) by rw [show (k == j) = true by simpa using hk]; rfl)
    subst hk
    go_enter Tryz.func10, Tryz.ntmps10
    go_wp2_with fail
    go_ret
    exact ⟨ret_b e1.out.symm, (by repeat (first | exact Below.refl _ _ | refine Below.alloc ?_ (by simp) _ | refine Below.setCell ?_ (by simp) _ | refine Below.drew ?_))⟩
  · have hb : (k == j) = false := by simpa using hk
    have e1 := Lib.hid (show (k == j && l == m) = false by rw [hb]; rfl)
    go_enter Tryz.func10, Tryz.ntmps10
    go_wp2_with fail
    go_ret
    exact ⟨ret_b e1.out.symm, (by repeat (first | exact Below.refl _ _ | refine Below.alloc ?_ (by simp) _ | refine Below.setCell ?_ (by simp) _ | refine Below.drew ?_))⟩

/-- a result of two cells that is stored -/
theorem Blk.two {w : World} {b : Nat} {t : TypeId} {x y x' y' : Value} (h : Blk w b t #[x, y]) :
    Blk ((w.setCell ⟨b, 0, none⟩ x').setCell ⟨b, 1, none⟩ y') b t #[x', y'] ∧ Fr (fun k => k = b) w ((w.setCell ⟨b, 0, none⟩ x').setCell ⟨b, 1, none⟩ y') := by
  refine ⟨?_, ((Fr.refl (fun k => k = b) w).setAt b 0 rfl _).setAt b 1 rfl _⟩
  have := (h.set_ 0 x').set_ 1 y'
  simpa using this
/-- an owned row behind a store of a result -/
theorem OwB.past {w w' : World} {base b : Nat} {t : TypeId} {cs : Array Value} {v : Value} {l : List UInt8} (h : OwB w base v l) (hb : Blk w b t cs) (ht : 5 ≠ t) (k : Fr (fun k => k = b) w w') : OwB w' base v l :=
  h.fr k (fun g hg e => hb.own_ne h ht (by rw [hg, e]))

set_option maxHeartbeats 400000 in
theorem leafClone_any (k : Int) (A : Option Addr) (c : Nat) (l : List UInt8) (Z : Nat → Prop) (w : World) (h : By w Z A l) (hlen : l.length ≤ 140737488355328) :
    Calls Tryz.prog 37 #[.agg #[.int .i64 k, .slice A l.length c]] w fun e w' => ∃ (A' : Option Addr) (c' : Nat) (l' : List UInt8), e = .returned (.agg #[.int .i64 k, .slice A' l'.length c']) ∧ Hid (l' = l) ∧ OwB w' w.heap.size (.slice A' l'.length c') l' ∧ Below w.heap.size w w' := by
  have b0 := ((Blk.new w 35 #[.int .i64 k, .slice A l.length c]).alloc (.cells #[.int .i64 0, .slice none 0 0] 35))
  have b1 := Blk.new (w.alloc (.cells #[.int .i64 k, .slice A l.length c] 35)) 35 #[.int .i64 0, .slice none 0 0]
  have hz : (w.alloc (.cells #[.int .i64 k, .slice A l.length c] 35)).heap.size = w.heap.size + 1 := by simp
  rw [hz] at b1
  have hy := (h.alloc (.cells #[.int .i64 k, .slice A l.length c] 35)).alloc (.cells #[.int .i64 0, .slice none 0 0] 35)
  have hw : Below w.heap.size w ((w.alloc (.cells #[.int .i64 k, .slice A l.length c] 35)).alloc (.cells #[.int .i64 0, .slice none 0 0] 35)) := (by repeat (first | exact Below.refl _ _ | refine Below.alloc ?_ (by simp) _ | refine Below.setCell ?_ (by simp) _ | refine Below.drew ?_))
  go_enter Tryz.func37, Tryz.ntmps37
  go_wp2_with fail
  generalize (w.alloc (.cells #[.int .i64 k, .slice A l.length c] 35)).alloc (.cells #[.int .i64 0, .slice none 0 0] 35) = W at *
  have c0 : W.cell? ⟨w.heap.size, 0, none⟩ = some (.int .i64 k) := b0.cell 0
  have c1 : W.cell? ⟨w.heap.size, 1, none⟩ = some (.slice A l.length c) := b0.cell 1
  go_region_held3 (fun w' => w'.cell? ⟨w.heap.size, 0, none⟩ = some (.int .i64 k) ∧ w'.cell? ⟨w.heap.size, 1, none⟩ = some (.slice A l.length c))
    (first | assumption | exact ⟨c0, c1⟩ | exact ⟨e0, e1⟩ | exact ⟨((hb0.far (by simp) _).far (by simp) _).cell 0, ((hb0.far (by simp) _).far (by simp) _).cell 1⟩)
    (first
    | (go_at_call 61; refine (clone_any A c l Z _ hy.drew hlen).mono ?_; rintro e w1 ⟨A', c', l', rfl, h1, h2, h3⟩; have hb1 : Blk w1 (w.heap.size + 1) 35 #[.int .i64 0, .slice none 0 0] := b1.drew.below h3; have g0 : w1.cell? ⟨w.heap.size + 1, 0, none⟩ = some (.int .i64 0) := hb1.cell 0; have g1 : w1.cell? ⟨w.heap.size + 1, 1, none⟩ = some (.slice none 0 0) := hb1.cell 1; have f0 := hb1.frozen 0; have f1 := hb1.frozen 1; have hb0 : Blk w1 w.heap.size 35 #[.int .i64 k, .slice A l.length c] := b0.drew.below h3; have e0 : w1.cell? ⟨w.heap.size, 0, none⟩ = some (.int .i64 k) := hb0.cell 0; have e1 : w1.cell? ⟨w.heap.size, 1, none⟩ = some (.slice A l.length c) := hb0.cell 1))
  obtain ⟨hb2, hf2⟩ := Blk.two (x' := .int .i64 k) (y' := .slice A' l'.length c') hb1
  have hs1 := hw.size
  have hs3 : W.heap.size ≤ w1.heap.size := h3.size
  have hlow : Below w.heap.size w w1 := hw.drew.trans (h3.mono hs1)
  have ho := h2.past hb1 (by decide) hf2
  clear b0 b1 c0 c1 g0 g1 f0 f1 e0 e1 hb0 hb1
  generalize (w1.setCell ⟨w.heap.size + 1, 0, none⟩ (.int .i64 k)).setCell ⟨w.heap.size + 1, 1, none⟩ (.slice A' l'.length c') = V at *
  have d0 : V.cell? ⟨w.heap.size + 1, 0, none⟩ = some (.int .i64 k) := hb2.cell 0
  have d1 : V.cell? ⟨w.heap.size + 1, 1, none⟩ = some (.slice A' l'.length c') := hb2.cell 1
  go_wp2_with fail
  refine bodyPost_ret (v := .agg #[.int .i64 k, .slice A' l'.length c']) (by simp [results, Tryz.results37, go_sem, d0, d1]) rfl ?_
  exact ⟨A', c', l', rfl, h1, own_base ho (fun g hg => Nat.le_trans hs1 (h2.lt _ hg).1), hlow.trans (hf2.below (by omega) (by intro k hk e; omega))⟩
end Go.Proofs.YtkeledbgmpienaaGreat

/- tree.Tree in memory, and what is set on it, plainly. -/
namespace Go.Proofs.YtkeledbgmpienaaGreat
open Go.RowKit

/-- a leaf, plainly -/
abbrev LP := Int × List UInt8
def LV.p (o : LV) : LP := (o.k, o.x.l)
/-- the leaves of a row, plainly -/
def plainL (L : List (List UInt8 × LV)) : List (List UInt8 × LP) := L.map fun x => (x.1, x.2.p)
/-- the row as a map's -/
def mapL (L : List (List UInt8 × LV)) : List (List UInt8 × Value) := L.map fun x => (x.1, x.2.v)
def kindL (o : Option LP) : Int := (o.map (·.1)).getD 0
/-- what Set says, and what it leaves -/
def mayS (T : List (List UInt8 × LP)) (p : List UInt8) (l : LP) : Int :=
  if goodB p = false then 23
  else if checkN l.1 l.2.length ≠ 0 then checkN l.1 l.2.length
  else if l.1 ≠ 2 ∧ ((keysR T).filter fun q => underB q p) ≠ [] then 22
  else if l.1 = 0 then 0
  else if (parT p).2 = true ∧ kindL (getR T (parT p).1) ≠ 2 then 22
  else if (getR T p).isNone ∧ 128 ≤ T.length then 24
  else 0
def doS (T : List (List UInt8 × LP)) (p : List UInt8) (l : LP) : List (List UInt8 × LP) := if l.1 = 0 then withoutR T p else putR T p l
def setS (T : List (List UInt8 × LP)) (p : List UInt8) (l : LP) : List (List UInt8 × LP) := if mayS T p l = 0 then doS T p l else T
/-- what every tree keeps -/
structure TreeOk (T : List (List UInt8 × LP)) : Prop where
  sort : SortR T
  good : ∀ x ∈ T, goodB x.1 = true ∧ (x.2.1 = 1 ∨ x.2.1 = 2) ∧ checkN x.2.1 x.2.2.length = 0
  len : T.length ≤ 128
theorem TreeOk.nil : TreeOk [] := ⟨sortR_nil, by simp, by simp⟩
theorem checkN_kind {k : Int} {n : Nat} (h : checkN k n = 0) : k = 0 ∨ k = 1 ∨ k = 2 := by
  unfold checkN at h
  split at h
  · rename_i h1; exact .inr (.inl h1)
  · split at h
    · rename_i h2; rcases h2 with h2 | h2
      · exact .inl h2
      · exact .inr (.inr h2)
    · simp at h
theorem TreeOk.set {T : List (List UInt8 × LP)} (h : TreeOk T) (p : List UInt8) (l : LP) : TreeOk (setS T p l) := by
  unfold setS
  split
  · rename_i hm
    unfold mayS at hm
    split at hm
    · simp at hm
    · rename_i hg
      split at hm
      · rename_i hc; exact absurd hm hc
      · rename_i hc
        rw [Classical.not_not] at hc
        split at hm
        · simp at hm
        · unfold doS
          split
          · exact ⟨h.sort.without p, fun x hx => h.good x ((List.mem_filter.1 hx).1), Nat.le_trans (without_len_le T p) h.len⟩
          · rename_i h0
            rw [if_neg h0] at hm
            split at hm
            · simp at hm
            · split at hm
              · simp at hm
              · rename_i hf
                refine ⟨h.sort.put p l, fun x hx => ?_, ?_⟩
                · unfold putR at hx
                  rcases mem_ins.1 hx with rfl | hx
                  · refine ⟨by simpa using hg, ?_, hc⟩
                    rcases checkN_kind hc with e | e | e
                    · exact absurd e h0
                    · exact .inl e
                    · exact .inr e
                  · exact h.good x ((List.mem_filter.1 hx).1)
                · unfold putR
                  rw [ins_len]
                  rcases hq : getR T p with _ | v
                  · rw [hq] at hf
                    simp at hf
                    rw [without_self hq]
                    omega
                  · have := h.sort.without_len hq
                    have := h.len
                    omega
  · exact h

/-- the tree at block tb -/
structure TreeAt (w : World) (tb : Nat) (mo : Option Nat) (L : List (List UInt8 × LV)) : Prop where
  blk : Blk w tb 84 #[.map mo]
  map : (mo = none ∧ L = []) ∨ ∃ mb, mo = some mb ∧ MapAt w Tryz.prog 9 mb (mapL L)
  own : ∀ x ∈ L, OwB w 0 (.slice x.2.x.A x.2.x.l.length x.2.x.c) x.2.x.l
  plain : TreeOk (plainL L)
namespace TreeAt
variable {w w' : World} {tb : Nat} {mo : Option Nat} {L : List (List UInt8 × LV)}
theorem c0 (h : TreeAt w tb mo L) : w.cell? ⟨tb, 0, none⟩ = some (.map mo) := h.blk.cell 0
theorem f0 (h : TreeAt w tb mo L) : w.frozen? ⟨tb, 0, none⟩ = false := h.blk.frozen 0
theorem fr {S : Nat → Prop} (h : TreeAt w tb mo L) (k : Fr S w w') (h1 : ¬ S tb) (h2 : ∀ m, mo = some m → ¬ S m) (h3 : ∀ x ∈ L, ∀ g, (Value.slice x.2.x.A x.2.x.l.length x.2.x.c).ownBlock = some g → ¬ S g) : TreeAt w' tb mo L :=
  ⟨h.blk.fr k h1, h.map.imp id fun ⟨mb, e, hm⟩ => ⟨mb, e, hm.block (k.block mb hm.lt (h2 mb e))⟩, fun x hx => own_fr (h.own x hx) k (h3 x hx), h.plain⟩
theorem below (h : TreeAt w tb mo L) (k : Below w.heap.size w w') : TreeAt w' tb mo L := h.fr (Fr.of_below k (fun _ => False)) (fun h => h) (fun _ _ h => h) (fun _ _ _ _ h => h)
/-- a row of the call's own of cells does not lie where the map lies -/
theorem own_map {mb base n size : Nat} {e : TypeId} {v : Value} {xs : List Value} {K : List (List UInt8 × Value)} (hm : MapAt w Tryz.prog 9 mb K) (h : w.ownsRow base e size v n xs) : v.ownBlock ≠ some mb := by
  rcases h.2 with ⟨rfl, _⟩ | ⟨g', cap, cur, rfl, _, hh, _⟩
  · simp [Value.ownBlock]
  · intro he
    have e1 : g' = mb := by simpa [Value.ownBlock] using he
    subst e1
    exact hm.not_cells hh
/-- rows of the call's own do not lie in a tree's own blocks -/
theorem ownT (t : TreeAt w tb mo L) {base n size : Nat} {e : TypeId} {v : Value} {xs : List Value} (h : w.ownsRow base e size v n xs) (he : e ≠ 84) : ∀ g, v.ownBlock = some g → ¬ (g = tb ∨ mo = some g) := by
  rintro g hg (rfl | hm)
  · exact t.blk.own_ne h he hg
  · rcases t.map with ⟨e0, _⟩ | ⟨mb, e0, hm2⟩
    · rw [e0] at hm; cases hm
    · rw [e0] at hm
      injection hm with hm
      subst hm
      exact own_map hm2 h hg
theorem ok (h : TreeAt w tb mo L) : ∀ x ∈ L, x.2.x.ok w (fun b => b ≠ tb ∧ mo ≠ some b) := fun x hx => by
  have h1 := h.own x hx
  obtain ⟨A', c', e, h2, h3, h4⟩ := h1.form
  injection e with e1 e2 e3
  subst e1 e3
  refine ⟨h1.rd.mono (fun b _ hb => ?_), h2, h3⟩
  have h5 := h.ownT h1 (by decide) b (h4 b hb).2.2
  exact ⟨fun e => h5 (.inl e), fun e => h5 (.inr e)⟩
theorem ne (h : TreeAt w tb mo L) : mo ≠ some tb := by
  rcases h.map with ⟨e, _⟩ | ⟨mb, e, hm⟩
  · rw [e]; simp
  · rw [e]
    intro e2
    injection e2 with e2
    subst e2
    exact hm.not_cells h.blk
theorem lt (h : TreeAt w tb mo L) : ∀ m, mo = some m → m < w.heap.size := by
  rcases h.map with ⟨e, _⟩ | ⟨mb, e, hm⟩
  · rw [e]; simp
  · rw [e]
    intro m e2
    injection e2 with e2
    subst e2
    exact hm.lt
/-- a new one -/
theorem new (w : World) : TreeAt (w.alloc (.cells #[.map none] 84)) w.heap.size none [] := ⟨Blk.new _ _ _, .inl ⟨rfl, rfl⟩, by simp, TreeOk.nil⟩
end TreeAt
theorem get_plain (L : List (List UInt8 × LV)) (p : List UInt8) : getR (plainL L) p = (getR L p).map LV.p := getR_map LV.p L p
theorem get_mapL (L : List (List UInt8 × LV)) (p : List UInt8) : getR (mapL L) p = (getR L p).map LV.v := getR_map LV.v L p
theorem keys_plain (L : List (List UInt8 × LV)) : keysR (plainL L) = keysR L := keys_map LV.p L
theorem keys_mapL (L : List (List UInt8 × LV)) : keysR (mapL L) = keysR L := keys_map LV.v L
end Go.Proofs.YtkeledbgmpienaaGreat

/- tree.Tree: get, Get, Len. -/
namespace Go.Proofs.YtkeledbgmpienaaGreat
open Go.RowKit Go.Maps

/-- a leaf, or none -/
def leafO : Option LV → Value
  | some o => o.v
  | none => .agg #[.int .i64 0, .slice none 0 0]
theorem leaf_zero (w : World) : (zeroValue 35).run Tryz.prog w = .ok (.agg #[.int .i64 0, .slice none 0 0]) w := by kernel_rfl
theorem str_keyed : Keyed Tryz.prog 9 := string_keyed Tryz.underlying9
/-- what is looked up in a tree's map -/
theorem TreeAt.look {w : World} {tb : Nat} {mo : Option Nat} {L : List (List UInt8 × LV)} (h : TreeAt w tb mo L) (p : List UInt8) (hp : p.length ≤ maxLen) :
    (Instr.lookup 82 (.map mo) (.string ⟨⟨p⟩⟩) false).run Tryz.prog w = .ok (leafO (getR L p)) w := by
  rcases h.map with ⟨rfl, rfl⟩ | ⟨mb, rfl, hm⟩
  · exact Maps.look_nil false str_keyed Tryz.underlying82 (leaf_zero w) (Go.WideMaps.keyOf_string_mk Tryz.underlying9 (s := ⟨⟨p⟩⟩) hp)
  · rw [hm.look Tryz.underlying9 Tryz.underlying82 (leaf_zero w) p hp, get_mapL]
    rcases getR L p with _ | o <;> rfl
theorem TreeAt.look_ok {w : World} {tb : Nat} {mo : Option Nat} {L : List (List UInt8 × LV)} (h : TreeAt w tb mo L) (p : List UInt8) (hp : p.length ≤ maxLen) :
    (Instr.lookup 82 (.map mo) (.string ⟨⟨p⟩⟩) true).run Tryz.prog w = .ok (.tuple #[leafO (getR L p), .bool (getR L p).isSome]) w := by
  rcases h.map with ⟨rfl, rfl⟩ | ⟨mb, rfl, hm⟩
  · exact Maps.look_nil true str_keyed Tryz.underlying82 (leaf_zero w) (Go.WideMaps.keyOf_string_mk Tryz.underlying9 (s := ⟨⟨p⟩⟩) hp)
  · rw [hm.look_ok Tryz.underlying9 Tryz.underlying82 (leaf_zero w) p hp, get_mapL]
    rcases getR L p with _ | o <;> rfl
theorem TreeAt.count {w : World} {tb : Nat} {mo : Option Nat} {L : List (List UInt8 × LV)} (h : TreeAt w tb mo L) (ty : TypeId) :
    (Builtin.len_ #[82] ty #[.map mo]).run Tryz.prog w = .ok (.int .i64 L.length) w := by
  rcases h.map with ⟨rfl, rfl⟩ | ⟨mb, rfl, hm⟩
  · exact Maps.len_nil Tryz.underlying82 ty
  · rw [hm.count Tryz.underlying9 Tryz.underlying82 ty]
    simp [mapL]

set_option maxHeartbeats 400000 in
theorem treeget_any (tb : Nat) (mo : Option Nat) (L : List (List UInt8 × LV)) (p : List UInt8) (w : World) (h : TreeAt w tb mo L) (hp : p.length ≤ 140737488355328) :
    Calls Tryz.prog 38 #[.pointer (some ⟨tb, 0, none⟩), .string ⟨⟨p⟩⟩] w fun e w' => e = .returned (leafO (getR L p)) ∧ Below w.heap.size w w' := by
  have hb0 : Below w.heap.size w (w.alloc (.cells #[.int .i64 0, .slice none 0 0] 35)) := (by repeat (first | exact Below.refl _ _ | refine Below.alloc ?_ (by simp) _ | refine Below.setCell ?_ (by simp) _ | refine Below.drew ?_))
  have h0 := h.below hb0
  have c0 := h0.c0
  have hl := h0.look p (by simp only [maxLen]; omega)
  clear h h0
  generalize getR L p = o at *
  rcases o with _ | ⟨k, A, c, l⟩
  · unfold leafO at hl ⊢
    go_enter Tryz.func38, Tryz.ntmps38
    go_wp2_with fail
    refine bodyPost_ret (v := .agg #[.int .i64 0, .slice none 0 0]) (by simp [results, Tryz.results38, go_sem]) rfl ?_
    exact ⟨rfl, (by repeat (first | exact Below.refl _ _ | refine Below.alloc ?_ (by simp) _ | refine Below.setCell ?_ (by simp) _ | refine Below.drew ?_))⟩
  · unfold leafO LV.v at hl ⊢
    dsimp only at hl ⊢
    go_enter Tryz.func38, Tryz.ntmps38
    go_wp2_with fail
    refine bodyPost_ret (v := .agg #[.int .i64 k, .slice A l.length c]) (by simp [results, Tryz.results38, go_sem]) rfl ?_
    exact ⟨rfl, (by repeat (first | exact Below.refl _ _ | refine Below.alloc ?_ (by simp) _ | refine Below.setCell ?_ (by simp) _ | refine Below.drew ?_))⟩

/-- a leaf told to a caller: of his own -/
def LeafOwn (w : World) (base : Nat) (e : Ending) (o : Option LV) : Prop :=
  ∃ (A : Option Addr) (c : Nat) (l : List UInt8), e = .returned (.agg #[.int .i64 ((o.map LV.k).getD 0), .slice A l.length c]) ∧ Hid (l = (o.map fun x => x.x.l).getD []) ∧ OwB w base (.slice A l.length c) l
theorem TreeAt.small {w : World} {tb : Nat} {mo : Option Nat} {L : List (List UInt8 × LV)} (h : TreeAt w tb mo L) {x : List UInt8 × LV} (hx : x ∈ L) : x.2.x.l.length ≤ 4096 ∧ goodB x.1 = true ∧ (x.2.k = 1 ∨ x.2.k = 2) := by
  obtain ⟨g1, g2, g3⟩ := h.plain.good (x.1, x.2.p) (List.mem_map.2 ⟨x, hx, rfl⟩)
  refine ⟨?_, g1, g2⟩
  unfold checkN LV.p at g3
  dsimp only at g3
  split at g3
  · split at g3
    · assumption
    · simp at g3
  · split at g3
    · split at g3
      · omega
      · simp at g3
    · simp at g3
set_option maxHeartbeats 400000 in
theorem treeGet_ofP (va : Option Addr) (p : List UInt8) (w : World) (k : Int) (A : Option Addr) (c : Nat) (l : List UInt8) (Z : Nat → Prop) (hl : By w Z A l) (hn : l.length ≤ 4096)
    (hg : ∀ W, Below w.heap.size w W → Calls Tryz.prog 38 #[.pointer va, .string ⟨⟨p⟩⟩] W fun e w' => e = .returned (.agg #[.int .i64 k, .slice A l.length c]) ∧ Below W.heap.size W w') :
    Calls Tryz.prog 15 #[.pointer va, .string ⟨⟨p⟩⟩] w fun e w' => ∃ (A' : Option Addr) (c' : Nat) (l' : List UInt8), e = .returned (.agg #[.int .i64 k, .slice A' l'.length c']) ∧ Hid (l' = l) ∧ OwB w' w.heap.size (.slice A' l'.length c') l' ∧ Below w.heap.size w w' := by
  have hb0 : Below w.heap.size w (w.alloc (.cells #[.int .i64 0, .slice none 0 0] 35)) := (by repeat (first | exact Below.refl _ _ | refine Below.alloc ?_ (by simp) _ | refine Below.setCell ?_ (by simp) _ | refine Below.drew ?_))
  have x0 := Blk.new w 35 #[.int .i64 0, .slice none 0 0]
  have HG := Lib.hid hg
  have HL := Lib.hid hl
  clear hg hl
  go_enter Tryz.func15, Tryz.ntmps15
  go_wp2_with fail
  refine (HG.out _ hb0).mono ?_
  rintro e w1 ⟨rfl, hb1⟩
  have hw1 := hb0.trans (hb1.mono hb0.size)
  have x1 := x0.below hb1
  clear x0 hb0 hb1
  go_wp2_with fail
  refine (leafClone_any k A c l Z w1 (HL.out.below hw1) (by omega)).mono ?_
  rintro e w2 ⟨A', c', l', rfl, h1, h2, h3⟩
  have x2 := x1.below h3
  have hw2 := hw1.trans (h3.mono hw1.size)
  have d0 : w2.cell? ⟨w.heap.size, 0, none⟩ = some (.int .i64 0) := x2.cell 0
  have d1 : w2.cell? ⟨w.heap.size, 1, none⟩ = some (.slice none 0 0) := x2.cell 1
  have f0 := x2.frozen 0
  have f1 := x2.frozen 1
  obtain ⟨x3, k3⟩ := Blk.two (x' := .int .i64 k) (y' := .slice A' l'.length c') x2
  have ho := own_base (base' := w.heap.size) (h2.past x2 (by decide) k3) (fun g hg => Nat.le_trans hw1.size (h2.lt _ hg).1)
  have hw3 := hw2.trans (k3.below (B := w.heap.size) hw2.size (by intro k hk e; omega))
  go_wp2_with fail
  generalize (w2.setCell ⟨w.heap.size, 0, none⟩ (.int .i64 k)).setCell ⟨w.heap.size, 1, none⟩ (.slice A' l'.length c') = V at *
  have e0 : V.cell? ⟨w.heap.size, 0, none⟩ = some (.int .i64 k) := x3.cell 0
  have e1 : V.cell? ⟨w.heap.size, 1, none⟩ = some (.slice A' l'.length c') := x3.cell 1
  refine bodyPost_ret (v := .agg #[.int .i64 k, .slice A' l'.length c']) (by simp [results, Tryz.results15, go_sem, e0, e1]) rfl ?_
  exact ⟨A', c', l', rfl, h1, ho, hw3⟩
theorem treeGet_any (tb : Nat) (mo : Option Nat) (L : List (List UInt8 × LV)) (p : List UInt8) (w : World) (h : TreeAt w tb mo L) (hp : p.length ≤ 140737488355328) :
    Calls Tryz.prog 15 #[.pointer (some ⟨tb, 0, none⟩), .string ⟨⟨p⟩⟩] w fun e w' => LeafOwn w' w.heap.size e (getR L p) ∧ Below w.heap.size w w' := by
  have hg := fun W (hW : Below w.heap.size w W) => treeget_any tb mo L p W (h.below hW) hp
  rcases hq : getR L p with _ | ⟨k, A, c, l⟩
  · rw [hq] at hg
    refine (treeGet_ofP (some ⟨tb, 0, none⟩) p w 0 none 0 [] (fun _ => False) Rd.nil (by simp) hg).mono ?_
    rintro e w' ⟨A', c', l', rfl, h1, h2, h3⟩
    exact ⟨⟨A', c', l', rfl, h1, h2⟩, h3⟩
  · rw [hq] at hg
    have hm := getR_mem hq
    refine (treeGet_ofP (some ⟨tb, 0, none⟩) p w k A c l _ (h.ok _ hm).1 (h.small hm).1 hg).mono ?_
    rintro e w' ⟨A', c', l', rfl, h1, h2, h3⟩
    exact ⟨⟨A', c', l', rfl, h1, h2⟩, h3⟩
end Go.Proofs.YtkeledbgmpienaaGreat

/- What slices.SortFunc of texts by name.Compare does, as a premise. -/
namespace Go.Proofs.YtkeledbgmpienaaGreat
open Go.RowKit Go.Maps

/-- texts sorted by name.Compare -/
def SortsT : Prop := ∀ (base : Nat) (A : Option Addr) (c : Nat) (ss : List (List UInt8)) (w : World), w.ownsRow base 9 1 (.slice A ss.length c) ss.length (ss.map stv) → (∀ x ∈ ss, x.length ≤ 140737488355328) → ss.length ≤ 1099511627776 →
  Calls Tryz.prog 83 #[.slice A ss.length c, .func (.func 34) #[] #[]] w fun e w' => e = .returned (.tuple #[]) ∧ w'.ownsRow base 9 1 (.slice A ss.length c) ss.length ((ss.mergeSort leT).map stv) ∧ w.grownBy w' (ablk A)
theorem below_grown {w w' : World} (h : Below w.heap.size w w') : w.grownBy w' none := ⟨h.os, h.tape, h.output, h.size, fun k hk _ => h.block k hk⟩
theorem grown_below {B : Nat} {w w' : World} {row : Option Nat} (h : w.grownBy w' row) (hB : B ≤ w.heap.size) (hr : ∀ g, row = some g → B ≤ g) : Below B w w' := ⟨h.os, h.tape, h.output, h.size, fun k hk => h.block k (by omega) (fun e => by have := hr k e.symm; omega)⟩
end Go.Proofs.YtkeledbgmpienaaGreat

/- tree.Tree's paths: those of which something holds, in order. -/
namespace Go.Proofs.YtkeledbgmpienaaGreat
open Go.RowKit Go.Maps


set_option maxRecDepth 100000 in
set_option maxHeartbeats 1000000 in
theorem pathsBelow_any (hS : SortsT) (tb : Nat) (mo : Option Nat) (L : List (List UInt8 × LV)) (f : List UInt8 → Bool) (xb : Nat) (w : World) (h : TreeAt w tb mo L)
    (hc : ∀ W, Below w.heap.size w W → ∀ p ∈ keysR L, Calls Tryz.prog 76 #[.string ⟨⟨p⟩⟩, .pointer (some ⟨xb, 0, none⟩)] W fun e w' => e = .returned (.bool (f p)) ∧ Below W.heap.size W w') :
    Calls Tryz.prog 75 #[.pointer (some ⟨tb, 0, none⟩), .func (.func 76) #[] #[.pointer (some ⟨xb, 0, none⟩)]] w fun e w' => ∃ (A : Option Addr) (c : Nat) (l : List (List UInt8)), e = .returned (.slice A l.length c) ∧ Hid (l = (keysR L).filter f) ∧ w'.ownsRow w.heap.size 9 1 (.slice A l.length c) l.length (l.map stv) ∧ Below w.heap.size w w' := by
  have c0 := h.c0
  have hT := Lib.hid h
  have hkl : ∀ p ∈ keysR L, p.length ≤ 96 := fun p hp => by
    obtain ⟨x, hx, rfl⟩ := List.mem_map.1 hp
    exact goodB_len (h.small hx).2.1
  rcases h.map with ⟨rfl, rfl⟩ | ⟨mb, rfl, hm⟩
  · have hrg := run_range_nilMap (P := Tryz.prog) w 82 9 35 Tryz.underlying82
    have hnx := fun ty => run_next_nilMap (P := Tryz.prog) w ty 0 0 #[]
    have hb0 : Below w.heap.size w (w.alloc (.mapIter none 0 #[] 0)) := (Below.refl _ _).alloc (Nat.le_refl _) _
    generalize w.alloc (.mapIter none 0 #[] 0) = W0 at *
    have hbs := hb0.size
    have H0 := Lib.hid hb0
    clear h hc hkl hb0
    go_enter Tryz.func75, Tryz.ntmps75
    go_wp2_with fail
    go_loopw [4] (fun ov wr => ov = .slice none 0 0 ∧ wr = W0) (fun _ _ => 0)
    case atStart => exact ⟨rfl, rfl⟩
    case round =>
      obtain ⟨rfl, rfl⟩ := hrel
      have h00 : (Value.slice none 0 0) = .slice none ([] : List (List UInt8)).length 0 := rfl
      go_wp2_with fail
      refine (hS w.heap.size none 0 [] wr (World.ownsRow_nil _ _ _ _) (by simp) (by simp)).mono ?_
      rintro e w2 ⟨rfl, hown2, hg2⟩
      go_wp2_with fail
      go_ret
      exact ⟨none, 0, [], rfl, rfl, by simpa using hown2, H0.out.trans (grown_below hg2 hbs (by simp [ablk]))⟩
  · obtain ⟨w0, hrun, hr0, hg0, hs0⟩ := hm.range Tryz.underlying9 Tryz.underlying82
    have hb0 : Below w.heap.size w w0 := grown_below hg0 (Nat.le_refl _) (by simp)
    clear hm h
    obtain ⟨i0, hi0, hz0, hz1, hz2⟩ := info_parts str_info
    go_enter Tryz.func75, Tryz.ntmps75
    go_wp2_with fail
    have hkeys := keys_mapL L
    go_loopw [4] (fun ov wr => ∃ (seen : List (List UInt8)) (cnt : Nat) (ss : List (List UInt8)) (A : Option Addr) (c : Nat), ov = .slice A ss.length c ∧ Rng wr Tryz.prog 9 mb w.heap.size (mapL L) seen cnt ∧ seen.length ≤ L.length ∧ wr.ownsRow (w.heap.size + 1) 9 1 (.slice A ss.length c) ss.length (ss.map stv) ∧ Hid (ss = seen.filter f) ∧ (∀ x ∈ ss, x.length ≤ 96) ∧ Below w.heap.size w wr) (fun _ wr => wr.rangeLeft mb w.heap.size)
    case atStart => exact ⟨[], _, [], none, 0, rfl, hr0, by simp, World.ownsRow_nil _ _ _ _, rfl, by simp, hb0⟩
    case round =>
      obtain ⟨seen, cnt, ss, A, c, rfl, hr, hsl, hown, hss, hsx, hb⟩ := hrel
      have hlr := hr.lt
      have hsz := hb.size
      have hssl : ss.length ≤ 128 := by
        have := (hT.out.plain).len
        have h2 : ss.length ≤ seen.length := by rw [hss.out]; exact List.length_filter_le _ _
        have h3 : (plainL L).length = L.length := by simp [plainL]
        omega
      rcases hr.next Tryz.underlying9 0 with ⟨hrun, h0, hnd, hall⟩ | ⟨p, v, w1, cnt1, hpv, hpn, hrun, hr1, hlt, hg1, hs1, hen⟩
      · have hfin : ss.mergeSort leT = (keysR L).filter f := by
          rw [hss.out]
          refine sort_keys ((sort_map LV.v (L := L)).1 hr.sort) f (hnd.filter _) fun k => ?_
          rw [List.mem_filter, hall, hkeys]
        have HF := Lib.hid hfin
        clear hfin hss hall hnd
        go_wp2_with fail
        refine (hS _ A c ss _ hown (fun x hx => by have := hsx x hx; omega) (by omega)).mono ?_
        rintro e w2 ⟨rfl, hown2, hg2⟩
        have hab : ∀ g, ablk A = some g → w.heap.size ≤ g := fun g hg => by have := (Row.of_own hown).lt g hg; omega
        go_wp2_with fail
        go_ret
        have hml : (ss.mergeSort leT).length = ss.length := List.length_mergeSort ss
        refine ⟨A, c, ss.mergeSort leT, by rw [hml]; rfl, HF.out, ?_, hb.trans (grown_below hg2 hsz hab)⟩
        rw [hml]
        exact own_base hown2 (fun g hg => by have := (hown2.lt g hg).1; omega)
      · have hpk : p ∈ keysR L := by rw [← hkeys]; exact List.mem_map.2 ⟨_, hpv, rfl⟩
        have hp96 := hkl p hpk
        have hb1 : Below w.heap.size w w1 := hb.trans (grown_below hg1 hsz (fun g hg => by injection hg with hg; omega))
        have hne : (Value.slice A ss.length c).ownBlock ≠ some w.heap.size := fun e => by have := (hown.lt _ e).1; omega
        have hown1 : w1.ownsRow (w.heap.size + 1) 9 1 (.slice A ss.length c) ss.length (ss.map stv) := own_fr hown (Fr.of_grown hg1 (S := fun g => g = w.heap.size) (fun k _ e => by injection e with e; exact e.symm)) (fun g hg e => hne (by rw [hg, e]))
        have hsl2 : (seen ++ [p]).length ≤ L.length := by
          obtain ⟨D, left, _, h4, hcol⟩ := hr1.rng
          have h2 : (seen ++ [p]) ⊆ keysR (mapL L) := fun k hk => by
            have := ((hcol.2 k).1 hk).1
            rw [h4.has] at this
            exact getR_isSome.1 this
          have := nodup_len _ _ hcol.1 h2
          rw [keys_len] at this
          simpa [mapL] using this
        have HC := Lib.hid (hc w1 hb1 p hpk)
        have hss2 : Hid ((seen ++ [p]).filter f = if f p = true then ss ++ [p] else ss) := by
          show _ = _
          rw [List.filter_append, ← hss.out]
          by_cases hf : f p = true
          · rw [if_pos hf, List.filter_cons, if_pos hf]; rfl
          · rw [if_neg hf, List.filter_cons, if_neg hf]; simp
        have hleft := hr.left_eq
        clear hss hown hr hb
        generalize f p = b at HC hss2
        cases b
        · go_wp2_with fail
          refine HC.out.mono ?_
          rintro e w2 ⟨rfl, hb2⟩
          have hr2 := hr1.kept (below_grown hb2) (by simp) (by simp)
          go_wp2_with fail
          go_roundw
          case rel => exact ⟨seen ++ [p], cnt1, ss, A, c, rfl, hr2, hsl2, own_below hown1 hb2, by show _ = _; rw [hss2.out]; simp, hsx, hb1.trans (hb2.mono hb1.size)⟩
          case measure => rw [hr2.left_eq, hleft]; omega
        · go_wp2_with fail
          refine HC.out.mono ?_
          rintro e w2 ⟨rfl, hb2⟩
          have hr2 := hr1.kept (below_grown hb2) (by simp) (by simp)
          have hown2 := own_below hown1 hb2
          have HO := Lib.hid (World.ownsRow.alloc hown2 (.cells #[stv p] 9))
          have hs2 := hb2.size
          have hmb : mb < w.heap.size := by
            rcases hT.out.map with ⟨e, _⟩ | ⟨mb', e, hm⟩
            · cases e
            · injection e with e; rw [e]; exact hm.lt
          go_wp2_with (at_builtin; refine wpList_append_any _ rfl (.tmp 20) (.tmp 22) 67 rfl (w.heap.size + 1) 9 i0 _ 1 16 Tryz.underlying67 hi0 hz0 hz1 hz2 rfl (by omega) (.slice A ss.length c) ss.length (ss.map stv) rfl HO.out _ _ 1 1 [stv p] rfl (Rd.lit (xs := [stv p]) (n := 1) rfl rfl rfl) (by simp [Value.oneCell', stv]) (by simp only [maxLen]; omega) (by omega) (by simp; omega) ?_; intro v3 w3 hown3 hg3 hat3; obtain ⟨A3, c3, rfl, _⟩ := own_form hown3)
          have hr3 : Rng w3 Tryz.prog 9 mb w.heap.size (mapL L) (seen ++ [p]) cnt1 := (hr2.kept (World.grownBy_alloc _ _ none) (by simp) (by simp)).kept hg3 (fun e => by have := (hown2.lt _ e.symm).1; omega) (fun e => by have := (hown2.lt _ e.symm).1; omega)
          have hb3 : Below w.heap.size w w3 := ((hb1.trans (hb2.mono hb1.size)).alloc (by omega) _).trans (grown_below hg3 (by simp; omega) (fun g hg => by have := (hown2.lt _ hg).1; omega))
          go_roundw
          case rel =>
            refine ⟨seen ++ [p], cnt1, ss ++ [p], A3, c3, by simp, hr3, hsl2, ?_, by show _ = _; rw [hss2.out]; simp, fun x hx => ?_, hb3⟩
            · rw [List.length_append, List.map_append]
              exact hown3
            · rcases List.mem_append.1 hx with hx | hx
              · exact hsx x hx
              · rw [List.mem_singleton.1 hx]; exact hp96
          case measure => rw [hr3.left_eq, hleft]; omega


end Go.Proofs.YtkeledbgmpienaaGreat

/- tree.Tree: Below, Kids, all. -/
namespace Go.Proofs.YtkeledbgmpienaaGreat
open Go.RowKit Go.Maps

/-- texts told to a caller: a row of his own -/
def TxtOwn (w : World) (base : Nat) (e : Ending) (l : List (List UInt8)) : Prop :=
  ∃ (A : Option Addr) (c : Nat) (l' : List (List UInt8)), e = .returned (.slice A l'.length c) ∧ Hid (l' = l) ∧ w.ownsRow base 9 1 (.slice A l'.length c) l'.length (l'.map stv)
theorem below1_any (p : List UInt8) (xb : Nat) (q : List UInt8) (w : World) (hp : p.length ≤ 9223372036854775807) (hq : q.length ≤ 9223372036854775807) (hx : Blk w xb 9 #[.string ⟨⟨p⟩⟩]) :
    Calls Tryz.prog 76 #[.string ⟨⟨q⟩⟩, .pointer (some ⟨xb, 0, none⟩)] w fun e w' => e = .returned (.bool (underB q p)) ∧ Below w.heap.size w w' := by
  have c0 := hx.cell 0
  simp at c0
  have HU := Lib.hid (under_any ⟨⟨q⟩⟩ ⟨⟨p⟩⟩ hq hp w)
  go_enter Tryz.func76, Tryz.ntmps76
  go_wp2_with fail
  refine HU.out.mono ?_
  rintro e w1 ⟨rfl, hb1⟩
  go_wp2_with fail
  go_ret
  exact ⟨rfl, hb1⟩
set_option maxHeartbeats 400000 in
theorem treeBelow_any (hS : SortsT) (tb : Nat) (mo : Option Nat) (L : List (List UInt8 × LV)) (p : List UInt8) (w : World) (h : TreeAt w tb mo L) (hp : p.length ≤ 140737488355328) :
    Calls Tryz.prog 66 #[.pointer (some ⟨tb, 0, none⟩), .string ⟨⟨p⟩⟩] w fun e w' => TxtOwn w' w.heap.size e ((keysR L).filter fun q => underB q p) ∧ Below w.heap.size w w' := by
  have hb0 : Below w.heap.size w (w.alloc (.cells #[.string ⟨⟨p⟩⟩] 9)) := (by repeat (first | exact Below.refl _ _ | refine Below.alloc ?_ (by simp) _ | refine Below.setCell ?_ (by simp) _ | refine Below.drew ?_))
  have hx := Blk.new w 9 #[.string ⟨⟨p⟩⟩]
  have h0 := h.below hb0
  have hkl : ∀ q ∈ keysR L, q.length ≤ 96 := fun q hq => by
    obtain ⟨x, hx, rfl⟩ := List.mem_map.1 hq
    exact goodB_len (h.small hx).2.1
  have HP := Lib.hid (pathsBelow_any hS tb mo L (fun q => underB q p) w.heap.size _ h0 (fun W hW q hq => below1_any p w.heap.size q W (by omega) (by have := hkl q hq; omega) (hx.below hW)))
  clear h h0 hx
  go_enter Tryz.func66, Tryz.ntmps66
  go_wp2_with fail
  refine HP.out.mono ?_
  rintro e w1 ⟨A, c, l, rfl, hl, ho, hb1⟩
  go_wp2_with fail
  go_ret
  exact ⟨⟨A, c, l, rfl, hl, own_base ho (fun g hg => Nat.le_trans hb0.size (ho.lt g hg).1)⟩, hb0.trans (hb1.mono hb0.size)⟩
end Go.Proofs.YtkeledbgmpienaaGreat

/- name.Ups, tenderref03.Ups, Same. -/
namespace Go.Proofs.YtkeledbgmpienaaGreat
open Go.RowKit

end Go.Proofs.YtkeledbgmpienaaGreat

/- tenderlaw03: lives. -/
namespace Go.Proofs.YtkeledbgmpienaaGreat
open Go.RowKit

end Go.Proofs.YtkeledbgmpienaaGreat

/- NameUps is true for every input: the parent of any path, all paths above it, and whether it is under another one, are the document's. No condition beyond the row's own. -/
namespace Go.Proofs.YtkeledbgmpienaaGreat
open Go.RowKit

end Go.Proofs.YtkeledbgmpienaaGreat
