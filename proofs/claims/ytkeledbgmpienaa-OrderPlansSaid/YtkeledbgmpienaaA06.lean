/- order: Plan. -/
import Derived.Test.YtkeledbgmpienaaA05

namespace Go.Proofs.Ytkeledbgmpienaa
open Go.RowKit Go.WideShapes Go.ChangeShapes Go.ChangeAt

def keepB (x : CV) : Bool := !remB x && restB x
def planS (l : List CV) : List CV := ((sortC ltC l).filter remB).reverse ++ (sortC ltC l).filter keepB
theorem filter_take {α : Type} {f : α → Bool} {l : List α} {i : Nat} {x : α} (hi : i < l.length) (hx : l[i] = x) : (l.take (i + 1)).filter f = (l.take i).filter f ++ (if f x = true then [x] else []) := by
  rw [List.take_succ_eq_append_getElem hi, List.filter_append, hx, List.filter_cons]
  split <;> rfl

set_option maxRecDepth 100000 in
set_option maxHeartbeats 2000000 in
theorem orderPlan_any (m : Nat) (hS : SortsC m) (hm : m ≤ 1000) (A : Option Addr) (c : Nat) (l : List CV) (Z : Nat → Prop) (w : World) (h : Rd w Z 9 A l.length (l.flatMap CV.cells)) (hp : ∀ x ∈ l, x.p.size ≤ 140737488355328) (hl : l.length ≤ m) :
    Calls Try.prog 10 #[.slice A l.length c] w fun e w' => ∃ (A' : Option Addr) (c' : Nat), e = .returned (.slice A' (planS l).length c') ∧ RowC w' w.heap.size A' c' (planS l) ∧ Below w.heap.size w w' := by
  obtain ⟨i0, hi0, hz0, hz1, hz2⟩ := info_parts ch_info
  have HC := Lib.hid (cloneC_any A c l Z w h (by omega))
  have HP := Lib.hid hp
  obtain ⟨S, hSd⟩ : ∃ S, S = sortC ltC l := ⟨_, rfl⟩
  have hSl : S.length = l.length := by rw [hSd]; exact sortC_len l
  have HSM : Hid (∀ x ∈ S, x ∈ l) := Lib.hid (fun x hx => by rw [hSd] at hx; exact sortC_mem.1 hx)
  obtain ⟨PP, hR⟩ : ∃ PP, PP = planS l := ⟨_, rfl⟩
  have HR0 : Hid (PP = (S.filter remB).reverse ++ S.filter keepB) := Lib.hid (by rw [hR, hSd]; rfl)
  rw [← hR]
  clear h hp hR
  go_enter Try.func10, Try.ntmps10
  go_wp2_with fail
  refine HC.out.mono ?_
  rintro e w1 ⟨A1, c1, rfl, hr1, hb1⟩
  have hr1' : RowC w1 w.heap.size A1 c1 l := hr1
  have HSO := Lib.hid (hS A1 c1 w.heap.size l w1 hr1' HP.out hl)
  have hlt1 := hr1'.lt
  clear hr1 hr1' HC
  go_wp2_with fail
  refine HSO.out.mono ?_
  rintro e w2 ⟨rfl, hr2, hf2⟩
  have hw2 : Below w.heap.size w w2 := hb1.trans (hf2.below hb1.size (fun k hk e => by have := (hlt1 k e).1; omega))
  rw [← hSd] at hr2
  have HRS := Lib.hid hr2
  have hSl2 := Lib.hid hSl
  have hl2 : S.length ≤ 1000 := by omega
  have hs2 := hw2.size
  clear hr2 hf2 HSO hlt1 hSd
  rw [← hSl]
  clear hSl hl
  go_wp2_with fail
  go_loopw [4, 5, 14] (fun gv rv iv wr => ∃ (i : Nat) (AG : Option Addr) (cG : Nat) (G : List CV) (AR : Option Addr) (cR : Nat) (Rr : List CV), i ≤ S.length ∧ iv = .int .i64 (i : Int) ∧ gv = .slice AG G.length cG ∧ rv = .slice AR Rr.length cR ∧ Hid (G = (S.take i).filter remB) ∧ Hid (Rr = (S.take i).filter keepB) ∧ RowC wr w2.heap.size AG cG G ∧ RowC wr w2.heap.size AR cR Rr ∧ Hid (∀ b, ablk AG = some b → ablk AR ≠ some b) ∧ Below w2.heap.size w2 wr) (fun _ _ iv _ => S.length - (intOf iv).toNat)
  case atStart => exact ⟨0, none, 0, [], none, 0, [], Nat.zero_le _, rfl, rfl, rfl, Lib.hid rfl, Lib.hid rfl, Row.none_ _ _ _ _, Row.none_ _ _ _ _, Lib.hid (fun b e => by cases e), Below.refl _ _⟩
  case round =>
    obtain ⟨i, AG, cG, G, AR, cR, R', hi, rfl, rfl, rfl, hG, hRr, hrG, hrR, hdis, hb⟩ := hrel
    obtain ⟨R, hRR⟩ : ∃ R, R = R' := ⟨_, rfl⟩
    subst hRR
    have hGl : G.length ≤ i := by
      rw [hG.out]; have h1 := List.length_filter_le remB (S.take i); rw [List.length_take] at h1; omega
    have hRl : R.length ≤ i := by
      rw [hRr.out]; have h1 := List.length_filter_le keepB (S.take i); rw [List.length_take] at h1; omega
    by_cases hlt : i < S.length
    · obtain ⟨x, hx⟩ : ∃ x, x = S[i] := ⟨_, rfl⟩
      obtain ⟨b, off, rfl, _, hbb, at1⟩ := ch_at (HRS.out.rd.below hb) hlt
      rw [← hx] at at1
      have HG1 : Hid ((S.take (i + 1)).filter remB = G ++ (if remB x = true then [x] else [])) := Lib.hid (by rw [filter_take hlt hx.symm, ← hG.out])
      have HR1 : Hid ((S.take (i + 1)).filter keepB = R ++ (if keepB x = true then [x] else [])) := Lib.hid (by rw [filter_take hlt hx.symm, ← hRr.out])
      have hba : Below wr.heap.size wr (wr.alloc (.cells #[.string x.p, .int .i64 x.b, .bool x.m, .bool x.t, .int .i64 x.k, .int .i64 x.o, .int .i64 x.s, .int .i64 x.l, .int .i64 x.v] 26)) := (Below.refl _ _).alloc (Nat.le_refl _) _
      have bc : Blk (wr.alloc (.cells #[.string x.p, .int .i64 x.b, .bool x.m, .bool x.t, .int .i64 x.k, .int .i64 x.o, .int .i64 x.s, .int .i64 x.l, .int .i64 x.v] 26)) wr.heap.size 26 x.cells.toArray := Blk.new wr _ _
      have hr3 := hb.trans (hba.mono hb.size)
      replace hrG := hrG.below hba
      replace hrR := hrR.below hba
      obtain ⟨a0, a1, a2, a3, a4, a5, a6, a7, a8⟩ := at1
      clear hx hG hRr
      go_upto_region 7 with (fail)
      obtain ⟨zb, hzb⟩ : ∃ zb, zb = wr.heap.size := ⟨_, rfl⟩
      rw [← hzb] at bc ⊢
      clear hzb hba a0 a1 a2 a3 a4 a5 a6 a7 a8
      generalize wr.alloc (.cells #[.string x.p, .int .i64 x.b, .bool x.m, .bool x.t, .int .i64 x.k, .int .i64 x.o, .int .i64 x.s, .int .i64 x.l, .int .i64 x.v] 26) = w3 at *
      obtain ⟨q0, q1, q2, q3, q4, q5, q6, q7, q8⟩ := cells9 bc
      go_wp2_with fail
      refine (removes_any x w3).mono ?_
      rintro e w4 ⟨rfl, hb4⟩
      have hr4 := hr3.trans (hb4.mono hr3.size)
      replace hrG := hrG.below hb4
      replace hrR := hrR.below hb4
      replace bc := bc.below hb4
      clear q0 q1 q2 q3 q4 q5 q6 q7 q8 hb4
      obtain ⟨q0, q1, q2, q3, q4, q5, q6, q7, q8⟩ := cells9 bc
      rcases hrm : remB x with _ | _
      · have HKB : Hid (keepB x = restB x) := Lib.hid (by unfold keepB; rw [hrm]; rfl)
        have HGA : Hid ((S.take (i + 1)).filter remB = G) := Lib.hid (by rw [HG1.out, hrm]; simp)
        obtain ⟨M, hM⟩ : ∃ M, M = movesB x.v := ⟨_, rfl⟩
        have HMV := Lib.hid (omoves_any x.p x.b x.m x.t x.k x.o x.s x.l x.v w4)
        rw [← hM] at HMV
        go_wp2_with fail
        refine HMV.out.mono ?_
        rintro e w5 ⟨rfl, hb5⟩
        have hr5 := hr4.trans (hb5.mono hr4.size)
        replace hrG := hrG.below hb5
        replace hrR := hrR.below hb5
        replace bc := bc.below hb5
        clear q0 q1 q2 q3 q4 q5 q6 q7 q8 hb5 HMV
        obtain ⟨q0, q1, q2, q3, q4, q5, q6, q7, q8⟩ := cells9 bc
        rcases hk : keepB x with _ | _
        · have HRA : Hid ((S.take (i + 1)).filter keepB = R) := Lib.hid (by rw [HR1.out, hk]; simp)
          have hrs : (movesB x.v || x.v == 3) = false := by rw [← hk, HKB.out]; rfl
          rw [← hM, Bool.or_eq_false_iff] at hrs
          obtain ⟨rfl, h3⟩ := hrs
          clear hM
          have HrG := Lib.hid hrG
          have HrR := Lib.hid hrR
          clear hrG hrR
          go_wp2_with fail
          go_roundw
          case rel => exact ⟨i + 1, AG, cG, G, AR, cR, R, hlt, by go_num, rfl, rfl, Lib.hid HGA.out.symm, Lib.hid HRA.out.symm, HrG.out, HrR.out, hdis, hr5⟩
          case measure => simp [intOf]; omega
        · have HRA : Hid ((S.take (i + 1)).filter keepB = R ++ [x]) := Lib.hid (by rw [HR1.out, hk]; simp)
          have hrs : (movesB x.v || x.v == 3) = true := by rw [← hk, HKB.out]; rfl
          rw [← hM] at hrs
          clear hM
          rcases M with _ | _
          · rw [Bool.false_or] at hrs
            have HRD : Hid (Rd (w5.alloc (.cells #[.string x.p, .int .i64 x.b, .bool x.m, .bool x.t, .int .i64 x.k, .int .i64 x.o, .int .i64 x.s, .int .i64 x.l, .int .i64 x.v] 26)) (fun b => w5.heap.size ≤ b) 9 (some ⟨w5.heap.size, 0, none⟩) 1 (CV.cells x)) := Lib.hid (Rd.lit rfl rfl rfl)
            have hba5 : Below w5.heap.size w5 (w5.alloc (.cells #[.string x.p, .int .i64 x.b, .bool x.m, .bool x.t, .int .i64 x.k, .int .i64 x.o, .int .i64 x.s, .int .i64 x.l, .int .i64 x.v] 26)) := (Below.refl _ _).alloc (Nat.le_refl _) _
            have HRG := Lib.hid (hrG.below hba5)
            have HRR := Lib.hid (hrR.below hba5)
            have hr6 := hr5.trans (hba5.mono hr5.size)
            have hsz := hr6.size
            clear hrG hrR hba5
            go_wp2_with (at_builtin; refine wpList_append_row _ rfl (.tmp 33) (.tmp 35) 22 rfl w2.heap.size 26 i0 _ 9 72 Try.underlying22 hi0 hz0 hz1 hz2 rfl (by omega) rfl HRR.out rfl HRD.out (fun u hu => ch_one [x] u (by simpa using hu)) (by simp only [maxLen]; omega) (by omega) hsz ?_; intro A7 c7 w7 h71 h72 h73)
            have hf7 : Fr (fun b => ablk AR = some b) (w5.alloc (.cells #[.string x.p, .int .i64 x.b, .bool x.m, .bool x.t, .int .i64 x.k, .int .i64 x.o, .int .i64 x.s, .int .i64 x.l, .int .i64 x.v] 26)) w7 := Fr.of_grown h72 (fun _ _ e => e)
            have hr7 : Below w2.heap.size w2 w7 := hr6.trans (hf7.below hsz (fun k hk e => by have := (HRR.out.lt k e).1; omega))
            have HNEW : Hid (RowC w7 w2.heap.size A7 c7 (R ++ [x])) := Lib.hid (by
              unfold RowC
              rw [List.length_append, List.flatMap_append, List.flatMap_cons, List.flatMap_nil, List.append_nil]; exact h71)
            have HOLD : Hid (RowC w7 w2.heap.size AG cG G) := Lib.hid (HRG.out.fr hf7 (fun b e1 e2 => hdis.out b e1 e2))
            have HDIS : Hid (∀ b, ablk AG = some b → ablk A7 ≠ some b) := Lib.hid (fun b e1 e2 => by
              rcases h73 b e2 with e | e
              · exact hdis.out b e1 e
              · have := (HRG.out.lt b e1).2; omega)
            clear h71 h72 h73 hf7 HRG HRR HRD
            go_wp2_with fail
            go_roundw
            case rel => exact ⟨i + 1, AG, cG, G, A7, c7, R ++ [x], hlt, by go_num, rfl, by rw [List.length_append]; rfl, Lib.hid HGA.out.symm, Lib.hid HRA.out.symm, HOLD.out, HNEW.out, HDIS, hr7⟩
            case measure => simp [intOf]; omega
          · clear hrs
            have HRD : Hid (Rd (w5.alloc (.cells #[.string x.p, .int .i64 x.b, .bool x.m, .bool x.t, .int .i64 x.k, .int .i64 x.o, .int .i64 x.s, .int .i64 x.l, .int .i64 x.v] 26)) (fun b => w5.heap.size ≤ b) 9 (some ⟨w5.heap.size, 0, none⟩) 1 (CV.cells x)) := Lib.hid (Rd.lit rfl rfl rfl)
            have hba5 : Below w5.heap.size w5 (w5.alloc (.cells #[.string x.p, .int .i64 x.b, .bool x.m, .bool x.t, .int .i64 x.k, .int .i64 x.o, .int .i64 x.s, .int .i64 x.l, .int .i64 x.v] 26)) := (Below.refl _ _).alloc (Nat.le_refl _) _
            have HRG := Lib.hid (hrG.below hba5)
            have HRR := Lib.hid (hrR.below hba5)
            have hr6 := hr5.trans (hba5.mono hr5.size)
            have hsz := hr6.size
            clear hrG hrR hba5
            go_wp2_with (at_builtin; refine wpList_append_row _ rfl (.tmp 33) (.tmp 35) 22 rfl w2.heap.size 26 i0 _ 9 72 Try.underlying22 hi0 hz0 hz1 hz2 rfl (by omega) rfl HRR.out rfl HRD.out (fun u hu => ch_one [x] u (by simpa using hu)) (by simp only [maxLen]; omega) (by omega) hsz ?_; intro A7 c7 w7 h71 h72 h73)
            have hf7 : Fr (fun b => ablk AR = some b) (w5.alloc (.cells #[.string x.p, .int .i64 x.b, .bool x.m, .bool x.t, .int .i64 x.k, .int .i64 x.o, .int .i64 x.s, .int .i64 x.l, .int .i64 x.v] 26)) w7 := Fr.of_grown h72 (fun _ _ e => e)
            have hr7 : Below w2.heap.size w2 w7 := hr6.trans (hf7.below hsz (fun k hk e => by have := (HRR.out.lt k e).1; omega))
            have HNEW : Hid (RowC w7 w2.heap.size A7 c7 (R ++ [x])) := Lib.hid (by
              unfold RowC
              rw [List.length_append, List.flatMap_append, List.flatMap_cons, List.flatMap_nil, List.append_nil]; exact h71)
            have HOLD : Hid (RowC w7 w2.heap.size AG cG G) := Lib.hid (HRG.out.fr hf7 (fun b e1 e2 => hdis.out b e1 e2))
            have HDIS : Hid (∀ b, ablk AG = some b → ablk A7 ≠ some b) := Lib.hid (fun b e1 e2 => by
              rcases h73 b e2 with e | e
              · exact hdis.out b e1 e
              · have := (HRG.out.lt b e1).2; omega)
            clear h71 h72 h73 hf7 HRG HRR HRD
            go_wp2_with fail
            go_roundw
            case rel => exact ⟨i + 1, AG, cG, G, A7, c7, R ++ [x], hlt, by go_num, rfl, by rw [List.length_append]; rfl, Lib.hid HGA.out.symm, Lib.hid HRA.out.symm, HOLD.out, HNEW.out, HDIS, hr7⟩
            case measure => simp [intOf]; omega
      · have HGA : Hid ((S.take (i + 1)).filter remB = G ++ [x]) := Lib.hid (by rw [HG1.out, hrm]; simp)
        have HRA : Hid ((S.take (i + 1)).filter keepB = R) := Lib.hid (by rw [HR1.out, show keepB x = false by unfold keepB; rw [hrm]; rfl]; simp)
        have hr5 := hr4
        obtain ⟨w5, hw5⟩ : ∃ w5, w5 = w4 := ⟨_, rfl⟩
        subst hw5
        have HRD : Hid (Rd (w5.alloc (.cells #[.string x.p, .int .i64 x.b, .bool x.m, .bool x.t, .int .i64 x.k, .int .i64 x.o, .int .i64 x.s, .int .i64 x.l, .int .i64 x.v] 26)) (fun b => w5.heap.size ≤ b) 9 (some ⟨w5.heap.size, 0, none⟩) 1 (CV.cells x)) := Lib.hid (Rd.lit rfl rfl rfl)
        have hba5 : Below w5.heap.size w5 (w5.alloc (.cells #[.string x.p, .int .i64 x.b, .bool x.m, .bool x.t, .int .i64 x.k, .int .i64 x.o, .int .i64 x.s, .int .i64 x.l, .int .i64 x.v] 26)) := (Below.refl _ _).alloc (Nat.le_refl _) _
        have HRG := Lib.hid (hrG.below hba5)
        have HRR := Lib.hid (hrR.below hba5)
        have hr6 := hr5.trans (hba5.mono hr5.size)
        have hsz := hr6.size
        clear hrG hrR hba5
        go_wp2_with (at_builtin; refine wpList_append_row _ rfl (.tmp 21) (.tmp 23) 22 rfl w2.heap.size 26 i0 _ 9 72 Try.underlying22 hi0 hz0 hz1 hz2 rfl (by omega) rfl HRG.out rfl HRD.out (fun u hu => ch_one [x] u (by simpa using hu)) (by simp only [maxLen]; omega) (by omega) hsz ?_; intro A7 c7 w7 h71 h72 h73)
        have hf7 : Fr (fun b => ablk AG = some b) (w5.alloc (.cells #[.string x.p, .int .i64 x.b, .bool x.m, .bool x.t, .int .i64 x.k, .int .i64 x.o, .int .i64 x.s, .int .i64 x.l, .int .i64 x.v] 26)) w7 := Fr.of_grown h72 (fun _ _ e => e)
        have hr7 : Below w2.heap.size w2 w7 := hr6.trans (hf7.below hsz (fun k hk e => by have := (HRG.out.lt k e).1; omega))
        have HNEW : Hid (RowC w7 w2.heap.size A7 c7 (G ++ [x])) := Lib.hid (by
          unfold RowC
          rw [List.length_append, List.flatMap_append, List.flatMap_cons, List.flatMap_nil, List.append_nil]; exact h71)
        have HOLD : Hid (RowC w7 w2.heap.size AR cR R) := Lib.hid (HRR.out.fr hf7 (fun b e1 e2 => hdis.out b e2 e1))
        have HDIS : Hid (∀ b, ablk A7 = some b → ablk AR ≠ some b) := Lib.hid (fun b e1 e2 => by
          rcases h73 b e1 with e | e
          · exact hdis.out b e e2
          · have := (HRR.out.lt b e2).2; omega)
        clear h71 h72 h73 hf7 HRG HRR HRD
        go_wp2_with fail
        go_roundw
        case rel => exact ⟨i + 1, A7, c7, G ++ [x], AR, cR, R, hlt, by go_num, by rw [List.length_append]; rfl, rfl, Lib.hid HGA.out.symm, Lib.hid HRA.out.symm, HNEW.out, HOLD.out, HDIS, hr7⟩
        case measure => simp [intOf]; omega
    · have e : i = S.length := by omega
      subst e
      rw [List.take_length] at hG hRr
      have HRV := Lib.hid (revC_any AG cG w2.heap.size G wr hrG (by omega))
      have hltG := hrG.lt
      have hltR := hrR.lt
      clear hrG
      go_wp2_with fail
      refine HRV.out.mono ?_
      rintro e w3 ⟨rfl, hr3, hf3⟩
      have hr3b : Below w2.heap.size w2 w3 := hb.trans (hf3.below hb.size (fun k hk e => by have := (hltG k e).1; omega))
      have hrR3 := hrR.fr hf3 (fun b e1 e2 => hdis.out b e2 e1)
      have HR3 : Hid (Row w3 w2.heap.size 26 9 AG G.length cG (G.reverse.flatMap CV.cells)) := Lib.hid (by rw [← List.length_reverse]; exact hr3)
      have HRD : Hid (Rd w3 (fun b => ablk AR = some b) 9 AR R.length (R.flatMap CV.cells)) := Lib.hid hrR3.rd
      have hsz := hr3b.size
      clear hr3 hf3 hrR hrR3 HRV hltG hltR
      go_wp2_with (at_builtin; refine wpList_append_row _ rfl (.tmp 40) (.tmp 41) 22 rfl w2.heap.size 26 i0 _ 9 72 Try.underlying22 hi0 hz0 hz1 hz2 rfl (by omega) rfl HR3.out rfl HRD.out (ch_one R) (by simp only [maxLen]; omega) (by omega) hsz ?_; intro A7 c7 w7 h71 h72 h73)
      have hr7 : Below w2.heap.size w2 w7 := hr3b.trans ((Fr.of_grown h72 (S := fun b => ablk AG = some b) (fun _ _ e => e)).below hsz (fun k hk e => by have := (HR3.out.lt k e).1; omega))
      have HLL : Hid (G.length + R.length = (G.reverse ++ R).length) := Lib.hid (by rw [List.length_append, List.length_reverse])
      have HEQ : Hid (G.reverse ++ R = (S.filter remB).reverse ++ S.filter keepB) := Lib.hid (by rw [hG.out, hRr.out])
      have HFIN : Hid (RowC w7 w.heap.size A7 c7 (G.reverse ++ R)) := Lib.hid (by
        unfold RowC
        rw [← HLL.out, List.flatMap_append]
        exact h71.rebase (fun g hg => by have := (h71.lt g hg).1; omega))
      have hw7 := hw2.trans (hr7.mono hw2.size)
      clear h71 h72 h73 HR3 HRD
      go_wp2_with fail
      go_ret
      exact ⟨A7, c7, by rw [HLL.out, HEQ.out, ← HR0.out]; rfl, by rw [HR0.out, ← HEQ.out]; exact HFIN.out, hw7⟩

end Go.Proofs.Ytkeledbgmpienaa

/- tenderref03: less, bytes, Compare. -/
namespace Go.Proofs.Ytkeledbgmpienaa
open Go.RowKit

/-- how two numbers stand -/
def cmpN (a b : Int) : Int := if a < b then -1 else if b < a then 1 else 0
theorem less_any (a b : Int) (w : World) : Calls Try.prog 59 #[.int .i64 a, .int .i64 b] w fun e w' => e = .returned (.int .i64 (cmpN a b)) ∧ w = w' := by
  obtain ⟨R, hR⟩ : ∃ R, R = cmpN a b := ⟨_, rfl⟩
  rw [← hR]
  have HR := Lib.hid hR
  clear hR
  go_enter Try.func59, Try.ntmps59
  go_wp2_with fail
  all_goals
    go_ret
    refine ⟨ret_i ?_, rfl⟩
    rw [HR.out]
    unfold cmpN
    first
      | (rw [if_pos (by assumption)])
      | (rw [if_neg (by omega), if_pos (by assumption)])
      | (rw [if_neg (by omega), if_neg (by omega)])
/-- two texts that are alike so far stand as what is left of them -/
theorem cmpB_take : ∀ (i : Nat) (a b : List UInt8), a.take i = b.take i → i ≤ a.length → i ≤ b.length → cmpB a b = cmpB (a.drop i) (b.drop i)
  | 0, _, _, _, _, _ => rfl
  | i + 1, [], _, _, h, _ => by simp at h
  | i + 1, _ :: _, [], _, _, h => by simp at h
  | i + 1, x :: a, y :: b, h, ha, hb => by
    rw [List.take_succ_cons, List.take_succ_cons] at h
    injection h with h1 h2
    subst h1
    have ih := cmpB_take i a b h2 (by simpa using ha) (by simpa using hb)
    rw [List.drop_succ_cons, List.drop_succ_cons, ← ih]
    show cmpL cmp1 (x :: a) (x :: b) = _
    rw [cmpL, if_pos ((ord1.eq x x).2 rfl)]
    rfl
theorem cmpP_take : ∀ (i : Nat) (a b : List (List UInt8)), a.take i = b.take i → i ≤ a.length → i ≤ b.length → cmpP a b = cmpP (a.drop i) (b.drop i)
  | 0, _, _, _, _, _ => rfl
  | i + 1, [], _, _, h, _ => by simp at h
  | i + 1, _ :: _, [], _, _, h => by simp at h
  | i + 1, x :: a, y :: b, h, ha, hb => by
    rw [List.take_succ_cons, List.take_succ_cons] at h
    injection h with h1 h2
    subst h1
    have ih := cmpP_take i a b h2 (by simpa using ha) (by simpa using hb)
    rw [List.drop_succ_cons, List.drop_succ_cons, ← ih]
    show cmpL cmpB (x :: a) (x :: b) = _
    rw [cmpL, if_pos (cmpB_self x)]
    rfl
theorem cmpL_ends {α : Type} (c : α → α → Int) (a b : List α) (h : a = [] ∨ b = []) : cmpL c a b = cmpN a.length b.length := by
  rcases h with rfl | rfl
  · cases b with
    | nil => rfl
    | cons y b => simp [cmpL, cmpN]
  · cases a with
    | nil => rfl
    | cons y b => simp [cmpL, cmpN]; omega
theorem cmpN_add (a b k : Int) : cmpN (a + k) (b + k) = cmpN a b := by
  unfold cmpN
  split <;> split <;> first | rfl | omega | (split <;> first | rfl | omega)
theorem cmpB_hd {x y : UInt8} {a b : List UInt8} (h : cmp1 x y ≠ 0) : cmpB (x :: a) (y :: b) = cmp1 x y := by
  show cmpL cmp1 _ _ = _
  rw [cmpL, if_neg h]

set_option maxRecDepth 100000 in
set_option maxHeartbeats 1000000 in
theorem bytes_any (s t : ByteArray) (hs : s.size ≤ 1048576) (_ : t.size ≤ 1048576) (w : World) : Calls Try.prog 58 #[.string s, .string t] w fun e w' => e = .returned (.int .i64 (cmpB (tl s) (tl t))) ∧ Qt w w' := by
  obtain ⟨R, hR⟩ : ∃ R, R = cmpB (tl s) (tl t) := ⟨_, rfl⟩
  rw [← hR]
  have HR := Lib.hid hR
  clear hR
  go_enter Try.func58, Try.ntmps58
  go_wp2_with fail
  go_loopw [5] (fun iv wr => ∃ i : Nat, i ≤ s.size ∧ i ≤ t.size ∧ iv = .int .i64 (i : Int) ∧ Hid ((tl s).take i = (tl t).take i) ∧ Qt w wr) (fun iv _ => s.size - (intOf iv).toNat)
  case atStart => exact ⟨0, Nat.zero_le _, Nat.zero_le _, rfl, rfl, Qt.refl _⟩
  case round =>
    obtain ⟨i, hi, hj, rfl, hz, hq⟩ := hrel
    by_cases hlt : i < s.size ∧ i < t.size
    · obtain ⟨h1, h2⟩ := hlt
      have g1 : (tl s)[i]? = some s[i] := by rw [List.getElem?_eq_getElem (by rw [tl_len]; exact h1)]; rfl
      have g2 : (tl t)[i]? = some t[i] := by rw [List.getElem?_eq_getElem (by rw [tl_len]; exact h2)]; rfl
      have d1 : (tl s).drop i = s[i] :: (tl s).drop (i + 1) := by rw [List.drop_eq_getElem_cons (by rw [tl_len]; exact h1)]; rfl
      have d2 : (tl t).drop i = t[i] :: (tl t).drop (i + 1) := by rw [List.drop_eq_getElem_cons (by rw [tl_len]; exact h2)]; rfl
      have HC : Hid (∀ v, cmp1 s[i] t[i] = v → v ≠ 0 → R = v) := by
        intro v hv h0
        rw [HR.out, cmpB_take i _ _ hz.out (by rw [tl_len]; omega) (by rw [tl_len]; omega), d1, d2, cmpB_hd (by rw [hv]; exact h0), hv]
      have HN : Hid (s[i] = t[i] → (tl s).take (i + 1) = (tl t).take (i + 1)) := by
        intro e
        rw [List.take_add_one, List.take_add_one, hz.out, g1, g2, e]
      clear g1 g2 d1 d2 hz
      go_wp2_with fail
      go_quiet (fail)
      go_wp2_with fail
      · have hl : s[i].toNat < t[i].toNat := by assumption
        go_ret
        refine ⟨ret_i (HC.out _ (by unfold cmp1; rw [if_pos (by omega)]) (by omega)).symm, hq.trans ⟨_, rfl⟩⟩
      · have hl : ¬ s[i].toNat < t[i].toNat := by assumption
        go_quiet (fail)
        go_wp2_with fail
        · have hl2 : t[i].toNat < s[i].toNat := by assumption
          go_ret
          refine ⟨ret_i (HC.out _ (by unfold cmp1; rw [if_neg (by omega), if_pos (by omega)]) (by omega)).symm, (hq.trans ⟨_, rfl⟩).trans ⟨_, rfl⟩⟩
        · have hl2 : ¬ t[i].toNat < s[i].toNat := by assumption
          go_roundw
          case rel => exact ⟨i + 1, h1, h2, by go_num, HN.out (UInt8.toNat_inj.1 (by omega)), hq.trans ⟨_, rfl⟩⟩
          case measure => simp [intOf]; omega
    · have hor : (s.size : Int) ≤ (i : Int) ∨ (i : Int) < (s.size : Int) ∧ (t.size : Int) ≤ (i : Int) := by omega
      rcases hor with h1 | ⟨h1, h2⟩
      all_goals
        clear hlt
        go_wp2_with (go_at_call 59; refine (less_any _ _ _).mono ?_; rintro e w2 ⟨rfl, rfl⟩)
        go_ret
        refine ⟨ret_i ?_, hq⟩
        have e := HR.out
        rw [cmpB_take i _ _ hz.out (by rw [tl_len]; omega) (by rw [tl_len]; omega)] at e
        rw [e]
        unfold cmpB
        rw [cmpL_ends cmp1 _ _ (by
          rcases (show s.size ≤ i ∨ t.size ≤ i by omega) with h | h
          · exact .inl (List.drop_of_length_le (by rw [tl_len]; exact h))
          · exact .inr (List.drop_of_length_le (by rw [tl_len]; exact h))), List.length_drop, List.length_drop, tl_len, tl_len]
        have := cmpN_add ((s.size - i : Nat) : Int) ((t.size - i : Nat) : Int) (i : Int)
        rw [← this]
        congr 1 <;> omega

/-- how two rows stand when they are alike so far and then part -/
theorem cmpP_at {i : Nat} {a b : List (List UInt8)} {x y : List UInt8} (h : a.take i = b.take i) (hx : a[i]? = some x) (hy : b[i]? = some y) (hne : cmpB x y ≠ 0) : cmpP a b = cmpB x y := by
  obtain ⟨h1, rfl⟩ := List.getElem?_eq_some_iff.1 hx
  obtain ⟨h2, rfl⟩ := List.getElem?_eq_some_iff.1 hy
  rw [cmpP_take i a b h (by omega) (by omega), List.drop_eq_getElem_cons h1, List.drop_eq_getElem_cons h2]
  show cmpL cmpB _ _ = _
  rw [cmpL, if_neg hne]

set_option maxRecDepth 100000 in
set_option maxHeartbeats 1000000 in
theorem refCompare_any (s t : ByteArray) (hs : s.size ≤ 1048576) (ht : t.size ≤ 1048576) (w : World) : Calls Try.prog 40 #[.string s, .string t] w fun e w' => e = .returned (.int .i64 (cmpT (tl s) (tl t))) ∧ Below w.heap.size w w' := by
  obtain ⟨R, hR⟩ : ∃ R, R = cmpT (tl s) (tl t) := ⟨_, rfl⟩
  rw [← hR]
  have HR := Lib.hid hR
  clear hR
  go_enter Try.func40, Try.ntmps40
  go_wp2_with fail
  refine (refCut_any s hs _).mono ?_
  rintro e w1 ⟨A, c, x, rfl, hx, hsx, hb⟩
  go_wp2_with fail
  refine (refCut_any t ht _).mono ?_
  rintro e w2 ⟨A', c', y, rfl, hy, hsy, hb2⟩
  replace hsx := hsx.below hb2
  have hbb := bthen hb hb2
  have hxl : x.length ≤ 1048577 := by
    have := cutL_len (tl s)
    rw [hx.out]
    rw [tl_len] at this
    omega
  have hyl : y.length ≤ 1048577 := by
    have := cutL_len (tl t)
    rw [hy.out]
    rw [tl_len] at this
    omega
  have hxm : ∀ z ∈ x, z.length ≤ 1048576 := by
    intro z hz
    rw [hx.out] at hz
    have := cut_mem_len _ _ hz
    rw [tl_len] at this
    omega
  have hym : ∀ z ∈ y, z.length ≤ 1048576 := by
    intro z hz
    rw [hy.out] at hz
    have := cut_mem_len _ _ hz
    rw [tl_len] at this
    omega
  have HR2 : Hid (R = cmpP x y) := by show _ = _; rw [HR.out, hx.out, hy.out]; rfl
  clear HR hx hy hb hb2
  go_wp2_with fail
  go_loopw [7] (fun iv wr => ∃ i : Nat, i ≤ x.length ∧ i ≤ y.length ∧ iv = .int .i64 (i : Int) ∧ Hid (x.take i = y.take i) ∧ Qt w2 wr) (fun iv _ => x.length - (intOf iv).toNat)
  case atStart => exact ⟨0, Nat.zero_le _, Nat.zero_le _, rfl, rfl, Qt.refl _⟩
  case round =>
    obtain ⟨i, hi, hj, rfl, hz, hq⟩ := hrel
    by_cases hlt : i < x.length ∧ i < y.length
    · obtain ⟨h1, h2⟩ := hlt
      obtain ⟨xi, hxi⟩ : ∃ z, x[i]? = some z := ⟨_, List.getElem?_eq_getElem h1⟩
      obtain ⟨yi, hyi⟩ : ∃ z, y[i]? = some z := ⟨_, List.getElem?_eq_getElem h2⟩
      obtain ⟨g, off, rfl, hgb, hgl, hcell, hfz⟩ := (hsx.below hq.below).get hxi
      obtain ⟨g', off', rfl, hgb', hgl', hcell', hfz'⟩ := (hsy.below hq.below).get hyi
      obtain ⟨C, hC⟩ : ∃ C, C = cmpB xi yi := ⟨_, rfl⟩
      have HB : Hid (∀ w, Calls Try.prog 58 #[.string ⟨⟨xi⟩⟩, .string ⟨⟨yi⟩⟩] w fun e w' => e = .returned (.int .i64 C) ∧ Qt w w') := by
        intro w
        rw [hC]
        exact bytes_any ⟨⟨xi⟩⟩ ⟨⟨yi⟩⟩ (hxm _ (List.mem_of_getElem? hxi)) (hym _ (List.mem_of_getElem? hyi)) w
      have HC : Hid (C ≠ 0 → R = C) := by
        intro h0
        rw [HR2.out, cmpP_at hz.out hxi hyi (by rw [← hC]; exact h0), hC]
      have HN : Hid (C = 0 → x.take (i + 1) = y.take (i + 1)) := by
        intro e
        rw [hC] at e
        rw [List.take_add_one, List.take_add_one, hz.out, hxi, hyi, (ordB.eq _ _).1 e]
      clear hxi hyi hC hz hfz hfz'
      unfold stv at hcell hcell'
      go_wp2_with fail
      go_quiet ((go_at_call 58; exact Calls.quiet_of (HB.out _)))
      by_cases hC0 : C = 0
      · have HN2 := Lib.hid (HN.out hC0)
        subst hC0
        go_wp2_with fail
        go_roundw
        case rel => exact ⟨i + 1, h1, h2, by go_num, HN2.out, hq.trans ⟨_, rfl⟩⟩
        case measure => simp [intOf]; omega
      · have HN2 := Lib.hid (HC.out hC0)
        have hne : (C == 0) = false := by simpa using hC0
        have hne2 : (C != 0) = true := by simpa using hC0
        go_wp2_with fail
        go_ret
        exact ⟨ret_i HN2.out.symm, hbb.trans ((hq.trans ⟨_, rfl⟩).below.mono hbb.size)⟩
    · have hor : (x.length : Int) ≤ (i : Int) ∨ (i : Int) < (x.length : Int) ∧ (y.length : Int) ≤ (i : Int) := by omega
      rcases hor with h1 | ⟨h1, h2⟩
      all_goals
        clear hlt
        go_wp2_with (go_at_call 59; refine (less_any _ _ _).mono ?_; rintro e w2 ⟨rfl, rfl⟩)
        go_ret
        refine ⟨ret_i ?_, hbb.trans (hq.below.mono hbb.size)⟩
        have e := HR2.out
        rw [cmpP_take i _ _ hz.out (by omega) (by omega)] at e
        rw [e]
        unfold cmpP
        rw [cmpL_ends cmpB _ _ (by
          rcases (show x.length ≤ i ∨ y.length ≤ i by omega) with h | h
          · exact .inl (List.drop_of_length_le h)
          · exact .inr (List.drop_of_length_le h)), List.length_drop, List.length_drop]
        have := cmpN_add ((x.length - i : Nat) : Int) ((y.length - i : Nat) : Int) (i : Int)
        rw [← this]
        congr 1 <;> omega
end Go.Proofs.Ytkeledbgmpienaa

/- tenderref28: put. -/
namespace Go.Proofs.Ytkeledbgmpienaa
open Go.RowKit Go.WideShapes Go.ChangeShapes Go.ChangeAt

theorem flat_takeC (l : List CV) (k : Nat) : (l.flatMap CV.cells).take (k * 9) = (l.take k).flatMap CV.cells := by
  induction l generalizing k with
  | nil => simp
  | cons x l ih =>
    cases k with
    | zero => simp
    | succ k =>
      rw [List.flatMap_cons, List.take_succ_cons, List.flatMap_cons, List.take_append, ch_len, show (k + 1) * 9 - 9 = k * 9 by omega, ih, List.take_of_length_le (by rw [ch_len]; omega)]
theorem flat_dropC (l : List CV) (k : Nat) : (l.flatMap CV.cells).drop (k * 9) = (l.drop k).flatMap CV.cells := by
  induction l generalizing k with
  | nil => simp
  | cons x l ih =>
    cases k with
    | zero => simp
    | succ k =>
      rw [List.flatMap_cons, List.drop_succ_cons, List.drop_append, ch_len, show (k + 1) * 9 - 9 = k * 9 by omega, ih, List.drop_of_length_le (by rw [ch_len]; omega), List.nil_append]
theorem ltC_gt (x y : CV) : decide (0 < cmpT (tl y.p) (tl x.p)) = ltC x y := by
  unfold ltC
  have := ordT.flip (tl x.p) (tl y.p)
  rw [decide_eq_decide]
  omega
theorem rowC_lit (w : World) : Row (w.alloc (.cells #[] 26)) w.heap.size 26 9 (some ⟨w.heap.size, 0, none⟩) 0 0 [] :=
  ⟨by simp, Nat.le_refl _, by simp [maxLen], fun h => (by cases h), fun a ha => by
    injection ha with ha
    subst ha
    exact ⟨w.heap.size, 0, _, rfl, Nat.le_refl _, Blk.new w _ _, by simp, by simp⟩⟩

set_option maxRecDepth 100000 in
set_option maxHeartbeats 2000000 in
theorem put28_any (A : Option Addr) (c base : Nat) (G : List CV) (x : CV) (w : World) (h : RowC w base A c G) (hA : A = none ∨ 0 < G.length) (hs : SortedC ltC G) (hp : ∀ y ∈ G, y.p.size ≤ 1048576) (hx : x.p.size ≤ 1048576) (hl : G.length ≤ 100000) (hcl : c ≤ maxLen) :
    Calls Try.prog 27 #[.slice A G.length c, x.val] w fun e w' => ∃ (A' : Option Addr) (c' : Nat), e = .returned (.slice A' (insC ltC x G).length c') ∧ RowC w' w.heap.size A' c' (insC ltC x G) ∧ Below w.heap.size w w' := by
  obtain ⟨i0, hi0, hz0, hz1, hz2⟩ := info_parts ch_info
  have hba : Below w.heap.size w (w.alloc (.cells #[.string x.p, .int .i64 x.b, .bool x.m, .bool x.t, .int .i64 x.k, .int .i64 x.o, .int .i64 x.s, .int .i64 x.l, .int .i64 x.v] 26)) := (Below.refl _ _).alloc (Nat.le_refl _) _
  have bc : Blk (w.alloc (.cells #[.string x.p, .int .i64 x.b, .bool x.m, .bool x.t, .int .i64 x.k, .int .i64 x.o, .int .i64 x.s, .int .i64 x.l, .int .i64 x.v] 26)) w.heap.size 26 x.cells.toArray := Blk.new w _ _
  have hw0 : w.heap.size ≤ (w.alloc (.cells #[.string x.p, .int .i64 x.b, .bool x.m, .bool x.t, .int .i64 x.k, .int .i64 x.o, .int .i64 x.s, .int .i64 x.l, .int .i64 x.v] 26)).heap.size := hba.size
  have HS := Lib.hid hs
  have HP := Lib.hid hp
  have HA := Lib.hid hA
  have hr0 := h.below hba
  have hroom := h.room
  clear h hs hp hA
  go_enter Try.func27, Try.ntmps27
  go_upto_region 1 with (fail)
  obtain ⟨zb, hzb⟩ : ∃ zb, zb = w.heap.size := ⟨_, rfl⟩
  rw [← hzb] at bc ⊢
  generalize w.alloc (.cells #[.string x.p, .int .i64 x.b, .bool x.m, .bool x.t, .int .i64 x.k, .int .i64 x.o, .int .i64 x.s, .int .i64 x.l, .int .i64 x.v] 26) = w0 at *
  have HZB := Lib.hid hzb
  clear hzb
  go_wp2_with fail
  go_loopw [5] (fun jv wr => ∃ k : Nat, k ≤ G.length ∧ jv = .int .i64 (k : Int) ∧ Hid (∀ y ∈ G.drop k, ltC x y = true) ∧ Below w0.heap.size w0 wr) (fun jv _ => (intOf jv).toNat)
  case atStart => exact ⟨G.length, Nat.le_refl _, rfl, Lib.hid (by simp), Below.refl _ _⟩
  case round =>
    obtain ⟨k, hkG, rfl, HK, hb⟩ := hrel
    have hr := hr0.below hb
    by_cases hk0 : 0 < k
    · obtain ⟨j, hj⟩ : ∃ j, k = j + 1 := ⟨k - 1, by omega⟩
      have HJ := Lib.hid hj
      have hjG : j < G.length := by omega
      have hkc : decide ((0 : Int) < (k : Int)) = true := decide_eq_true (by omega)
      obtain ⟨y, hy⟩ : ∃ y, G[j]? = some y := ⟨_, List.getElem?_eq_getElem (by omega)⟩
      obtain ⟨g, off, rfl, _, hgb⟩ := hr.addr (by omega)
      have hy9 := RowC.get hr hy
      have hyp := HP.out y (List.mem_of_getElem? hy)
      have HCM := Lib.hid (fun W (_ : Below wr.heap.size wr W) => refCompare_any y.p x.p hyp hx W)
      have hdj : G.drop j = y :: G.drop k := by
        obtain ⟨h1, h2⟩ := List.getElem?_eq_some_iff.1 hy
        rw [List.drop_eq_getElem_cons h1, h2, hj]
      have HDJ := Lib.hid hdj
      have HY := Lib.hid hy
      have bc0 := bc
      replace bc := bc.below hb
      have hwj : IntKind.i64.wrap ((k : Int) - 1) = (j : Int) := by rw [IntKind.wrap_i64]; omega
      have hz1' : (j : Int) < (G.length : Int) := by omega
      have hgt := ltC_gt x y
      have HGT := Lib.hid hgt
      clear hy hdj hgt hj
      by_cases hlx : 0 < cmpT (tl y.p) (tl x.p)
      · have hld : decide (0 < cmpT (tl y.p) (tl x.p)) = true := decide_eq_true hlx
        have HK2 : Hid (∀ z ∈ G.drop j, ltC x z = true) := Lib.hid (fun z hz => by
          rw [HDJ.out] at hz
          rcases List.mem_cons.1 hz with e | e
          · rw [e, ← HGT.out]; exact hld
          · exact HK.out z e)
        have hb' := hb
        clear hr
        go_wp2_with fail
        refine wp_region_b 14 (by kernel_rfl) (by kernel_rfl) ?_
        simp only [List.take_succ_cons, List.take_zero, List.drop_succ_cons, List.drop_zero]
        refine lb_move _ (by kernel_rfl) rfl ⟨_, (by ((try simp [go_sem]); (try rfl); done)), _, (by (simp only [Act.put, List.setIfInBounds_toArray, List.set_cons_zero, List.set_cons_succ]; rfl)), ?_⟩
        refine lb_val (by kernel_rfl) ⟨_, (by (intro w' hC; clear hC; (try go_simp); (try with_reducible rfl); done)), _, (by (simp only [Act.put, List.setIfInBounds_toArray, List.set_cons_zero, List.set_cons_succ]; rfl)), ?_⟩
        refine lb_move _ (by kernel_rfl) rfl ⟨_, (by ((try simp [go_sem]); (try rfl); done)), _, (by (simp only [Act.put, List.setIfInBounds_toArray, List.set_cons_zero, List.set_cons_succ]; rfl)), ?_⟩
        first | (refine lb_skip (by rfl) ⟨_, (by (simp only [Act.put, List.setIfInBounds_toArray, List.set_cons_zero, List.set_cons_succ]; rfl)), ?_⟩) | (refine lb_move _ (by kernel_rfl) rfl ⟨_, (by ((try simp [go_sem]); (try rfl); done)), _, (by (simp only [Act.put, List.setIfInBounds_toArray, List.set_cons_zero, List.set_cons_succ]; rfl)), ?_⟩)
        first | (refine lb_skip (by rfl) ⟨_, (by (simp only [Act.put, List.setIfInBounds_toArray, List.set_cons_zero, List.set_cons_succ]; rfl)), ?_⟩) | (refine lb_move _ (by kernel_rfl) rfl ⟨_, (by ((try simp [go_sem]); (try rfl); done)), _, (by (simp only [Act.put, List.setIfInBounds_toArray, List.set_cons_zero, List.set_cons_succ]; rfl)), ?_⟩)
        first | (refine lb_skip (by rfl) ⟨_, (by (simp only [Act.put, List.setIfInBounds_toArray, List.set_cons_zero, List.set_cons_succ]; rfl)), ?_⟩) | (refine lb_val (by kernel_rfl) ⟨_, (by (intro w' hC; clear hC; (try go_simp); (try with_reducible rfl); done)), _, (by (simp only [Act.put, List.setIfInBounds_toArray, List.set_cons_zero, List.set_cons_succ]; rfl)), ?_⟩)
        first | (refine lb_skip (by rfl) ⟨_, (by (simp only [Act.put, List.setIfInBounds_toArray, List.set_cons_zero, List.set_cons_succ]; rfl)), ?_⟩) | (refine lb_val (by kernel_rfl) ⟨_, (by (intro w' hC; clear hC; (try go_simp); (try with_reducible rfl); done)), _, (by (simp only [Act.put, List.setIfInBounds_toArray, List.set_cons_zero, List.set_cons_succ]; rfl)), ?_⟩)
        first | (refine lb_skip (by rfl) ⟨_, (by (simp only [Act.put, List.setIfInBounds_toArray, List.set_cons_zero, List.set_cons_succ]; rfl)), ?_⟩) | (refine lb_val (by kernel_rfl) ⟨_, (by (intro w' hC; clear hC; (try go_simp); (try with_reducible rfl); done)), _, (by (simp only [Act.put, List.setIfInBounds_toArray, List.set_cons_zero, List.set_cons_succ]; rfl)), ?_⟩)
        first | (refine lb_skip (by rfl) ⟨_, (by (simp only [Act.put, List.setIfInBounds_toArray, List.set_cons_zero, List.set_cons_succ]; rfl)), ?_⟩) | (refine lb_val (by kernel_rfl) ⟨_, (by (intro w' hC; (obtain ⟨y0, y1, y2, y3, y4, y5, y6, y7, y8⟩ := hy9.below hgb hC); clear hC; (try go_simp); (try with_reducible rfl); done)), _, (by (simp only [Act.put, List.setIfInBounds_toArray, List.set_cons_zero, List.set_cons_succ]; rfl)), ?_⟩)
        first | (refine lb_skip (by rfl) ⟨_, (by (simp only [Act.put, List.setIfInBounds_toArray, List.set_cons_zero, List.set_cons_succ]; rfl)), ?_⟩) | (refine lb_val (by kernel_rfl) ⟨_, (by (intro w' hC; clear hC; (try go_simp); (try with_reducible rfl); done)), _, (by (simp only [Act.put, List.setIfInBounds_toArray, List.set_cons_zero, List.set_cons_succ]; rfl)), ?_⟩)
        first | (refine lb_skip (by rfl) ⟨_, (by (simp only [Act.put, List.setIfInBounds_toArray, List.set_cons_zero, List.set_cons_succ]; rfl)), ?_⟩) | (refine lb_val (by kernel_rfl) ⟨_, (by (intro w' hC; (obtain ⟨q0, q1, q2, q3, q4, q5, q6, q7, q8⟩ := cells9 (bc.below hC)); clear hC; (try go_simp); (try with_reducible rfl); done)), _, (by (simp only [Act.put, List.setIfInBounds_toArray, List.set_cons_zero, List.set_cons_succ]; rfl)), ?_⟩)
        first | (refine lb_skip (by rfl) ⟨_, (by (simp only [Act.put, List.setIfInBounds_toArray, List.set_cons_zero, List.set_cons_succ]; rfl)), ?_⟩) | (refine lb_call (by kernel_rfl) (fun w' hC => HCM.out w' hC) (by (intro w'; go_simp; done)) ⟨_, (by (simp only [Act.put, List.setIfInBounds_toArray, List.set_cons_zero, List.set_cons_succ]; rfl)), ?_⟩)
        first | (refine lb_skip (by rfl) ⟨_, (by (simp only [Act.put, List.setIfInBounds_toArray, List.set_cons_zero, List.set_cons_succ]; rfl)), ?_⟩) | (refine lb_val (by kernel_rfl) ⟨_, (by (intro w' hC; clear hC; (try go_simp); (try with_reducible rfl); done)), _, (by (simp only [Act.put, List.setIfInBounds_toArray, List.set_cons_zero, List.set_cons_succ]; rfl)), ?_⟩)
        refine lb_val (by kernel_rfl) ⟨_, (by (intro w' hC; clear hC; (try go_simp); (try with_reducible rfl); done)), _, (by (simp only [Act.put, List.setIfInBounds_toArray, List.set_cons_zero, List.set_cons_succ]; rfl)), ?_⟩
        refine .nil ?_
        intro w2 hb2
        have hbw2 := hb'.trans (hb2.mono hb'.size)
        clear hy9 HCM hb2 hb hb' bc
        go_wp2_with fail
        go_roundw
        case rel => exact ⟨j, by omega, rfl, HK2, hbw2⟩
        case measure => have := HJ.out; simp [intOf]; omega
      · have hld : decide (0 < cmpT (tl y.p) (tl x.p)) = false := decide_eq_false hlx
        have HINS : Hid (insC ltC x G = G.take k ++ x :: G.drop k) := Lib.hid (insC_at ordC HS.out (by omega) HK.out (fun i hi e => by
          have : i = j := by have := HJ.out; omega
          subst this
          have h1 := (List.getElem?_eq_some_iff.1 HY.out).2
          rw [h1, ← HGT.out]; exact hld))
        have hb' := hb
        have hr' := hr
        clear hr
        have hkp : 0 < k := hk0
        go_wp2_with fail
        refine wp_region_b 14 (by kernel_rfl) (by kernel_rfl) ?_
        simp only [List.take_succ_cons, List.take_zero, List.drop_succ_cons, List.drop_zero]
        refine lb_move _ (by kernel_rfl) rfl ⟨_, (by ((try simp [go_sem]); (try rfl); done)), _, (by (simp only [Act.put, List.setIfInBounds_toArray, List.set_cons_zero, List.set_cons_succ]; rfl)), ?_⟩
        refine lb_val (by kernel_rfl) ⟨_, (by (intro w' hC; clear hC; (try go_simp); (try with_reducible rfl); done)), _, (by (simp only [Act.put, List.setIfInBounds_toArray, List.set_cons_zero, List.set_cons_succ]; rfl)), ?_⟩
        refine lb_move _ (by kernel_rfl) rfl ⟨_, (by ((try simp [go_sem]); (try rfl); done)), _, (by (simp only [Act.put, List.setIfInBounds_toArray, List.set_cons_zero, List.set_cons_succ]; rfl)), ?_⟩
        first | (refine lb_skip (by rfl) ⟨_, (by (simp only [Act.put, List.setIfInBounds_toArray, List.set_cons_zero, List.set_cons_succ]; rfl)), ?_⟩) | (refine lb_move _ (by kernel_rfl) rfl ⟨_, (by ((try simp [go_sem]); (try rfl); done)), _, (by (simp only [Act.put, List.setIfInBounds_toArray, List.set_cons_zero, List.set_cons_succ]; rfl)), ?_⟩)
        first | (refine lb_skip (by rfl) ⟨_, (by (simp only [Act.put, List.setIfInBounds_toArray, List.set_cons_zero, List.set_cons_succ]; rfl)), ?_⟩) | (refine lb_move _ (by kernel_rfl) rfl ⟨_, (by ((try simp [go_sem]); (try rfl); done)), _, (by (simp only [Act.put, List.setIfInBounds_toArray, List.set_cons_zero, List.set_cons_succ]; rfl)), ?_⟩)
        first | (refine lb_skip (by rfl) ⟨_, (by (simp only [Act.put, List.setIfInBounds_toArray, List.set_cons_zero, List.set_cons_succ]; rfl)), ?_⟩) | (refine lb_val (by kernel_rfl) ⟨_, (by (intro w' hC; clear hC; (try go_simp); (try with_reducible rfl); done)), _, (by (simp only [Act.put, List.setIfInBounds_toArray, List.set_cons_zero, List.set_cons_succ]; rfl)), ?_⟩)
        first | (refine lb_skip (by rfl) ⟨_, (by (simp only [Act.put, List.setIfInBounds_toArray, List.set_cons_zero, List.set_cons_succ]; rfl)), ?_⟩) | (refine lb_val (by kernel_rfl) ⟨_, (by (intro w' hC; clear hC; (try go_simp); (try with_reducible rfl); done)), _, (by (simp only [Act.put, List.setIfInBounds_toArray, List.set_cons_zero, List.set_cons_succ]; rfl)), ?_⟩)
        first | (refine lb_skip (by rfl) ⟨_, (by (simp only [Act.put, List.setIfInBounds_toArray, List.set_cons_zero, List.set_cons_succ]; rfl)), ?_⟩) | (refine lb_val (by kernel_rfl) ⟨_, (by (intro w' hC; clear hC; (try go_simp); (try with_reducible rfl); done)), _, (by (simp only [Act.put, List.setIfInBounds_toArray, List.set_cons_zero, List.set_cons_succ]; rfl)), ?_⟩)
        first | (refine lb_skip (by rfl) ⟨_, (by (simp only [Act.put, List.setIfInBounds_toArray, List.set_cons_zero, List.set_cons_succ]; rfl)), ?_⟩) | (refine lb_val (by kernel_rfl) ⟨_, (by (intro w' hC; (obtain ⟨y0, y1, y2, y3, y4, y5, y6, y7, y8⟩ := hy9.below hgb hC); clear hC; (try go_simp); (try with_reducible rfl); done)), _, (by (simp only [Act.put, List.setIfInBounds_toArray, List.set_cons_zero, List.set_cons_succ]; rfl)), ?_⟩)
        first | (refine lb_skip (by rfl) ⟨_, (by (simp only [Act.put, List.setIfInBounds_toArray, List.set_cons_zero, List.set_cons_succ]; rfl)), ?_⟩) | (refine lb_val (by kernel_rfl) ⟨_, (by (intro w' hC; clear hC; (try go_simp); (try with_reducible rfl); done)), _, (by (simp only [Act.put, List.setIfInBounds_toArray, List.set_cons_zero, List.set_cons_succ]; rfl)), ?_⟩)
        first | (refine lb_skip (by rfl) ⟨_, (by (simp only [Act.put, List.setIfInBounds_toArray, List.set_cons_zero, List.set_cons_succ]; rfl)), ?_⟩) | (refine lb_val (by kernel_rfl) ⟨_, (by (intro w' hC; (obtain ⟨q0, q1, q2, q3, q4, q5, q6, q7, q8⟩ := cells9 (bc.below hC)); clear hC; (try go_simp); (try with_reducible rfl); done)), _, (by (simp only [Act.put, List.setIfInBounds_toArray, List.set_cons_zero, List.set_cons_succ]; rfl)), ?_⟩)
        first | (refine lb_skip (by rfl) ⟨_, (by (simp only [Act.put, List.setIfInBounds_toArray, List.set_cons_zero, List.set_cons_succ]; rfl)), ?_⟩) | (refine lb_call (by kernel_rfl) (fun w' hC => HCM.out w' hC) (by (intro w'; go_simp; done)) ⟨_, (by (simp only [Act.put, List.setIfInBounds_toArray, List.set_cons_zero, List.set_cons_succ]; rfl)), ?_⟩)
        first | (refine lb_skip (by rfl) ⟨_, (by (simp only [Act.put, List.setIfInBounds_toArray, List.set_cons_zero, List.set_cons_succ]; rfl)), ?_⟩) | (refine lb_val (by kernel_rfl) ⟨_, (by (intro w' hC; clear hC; (try go_simp); (try with_reducible rfl); done)), _, (by (simp only [Act.put, List.setIfInBounds_toArray, List.set_cons_zero, List.set_cons_succ]; rfl)), ?_⟩)
        refine lb_val (by kernel_rfl) ⟨_, (by (intro w' hC; clear hC; (try go_simp); (try with_reducible rfl); done)), _, (by (simp only [Act.put, List.setIfInBounds_toArray, List.set_cons_zero, List.set_cons_succ]; rfl)), ?_⟩
        refine .nil ?_
        intro w2 hb2
        clear bc
        have hr := hr'.below hb2
        have bc := bc0
        have hbo := hb
        clear hb
        have hb := hb'.trans (hb2.mono hb'.size)
        clear hy9 HCM hb2 hb' hr' bc0 hr0 hbo hgb wr
        rename World => wr
        by_cases hck : c = k
        · have b3 : c - k = 0 := by omega
          have b4 : ¬ c = 0 := by omega
          have b5 : ¬ k = 0 := by omega
          have HCK := Lib.hid hck
          clear hck
          have bcr := bc.below hb
          clear bc
          have HG := Lib.hid hr
          have hbr := hb
          have ba1 : Below wr.heap.size wr (wr.alloc (.cells #[] 26)) := (Below.refl _ _).alloc (Nat.le_refl _) _
          have HL1 := Lib.hid (rowC_lit wr)
          have HR1 : Hid (Rd (wr.alloc (.cells #[] 26)) (fun b => ablk (some ⟨g, off, none⟩) = some b) 9 (some ⟨g, off, none⟩) k ((G.take k).flatMap CV.cells)) := Lib.hid (by rw [← flat_takeC]; exact (hr.rd.below ba1).take hkG)
          have HO1 := Lib.hid (ch_one (G.take k))
          have HO2 := Lib.hid (ch_one [x])
          have HO3 := Lib.hid (ch_one (G.drop k))
          have HDR := Lib.hid (fun w8 (hb8 : Below wr.heap.size wr w8) => (hr.rd.below hb8).drop (k := k) (cap := c) hkG hroom)
          rw [if_pos HCK.out] at HDR
          simp only [flat_dropC] at HDR
          clear hr hb
          go_wp2_with (at_builtin; first
            | (refine wpList_append_row _ rfl (.tmp 25) (.tmp 28) 22 rfl wr.heap.size 26 i0 _ 9 72 Try.underlying22 hi0 hz0 hz1 hz2 rfl (by omega) rfl HL1.out rfl HR1.out HO1.out (by simp only [maxLen]; omega) (by omega) (by simp) ?_; intro A6 c6 w6 h61 h62 h63; rw [List.nil_append, Nat.zero_add] at h61; have hf6 : Below wr.heap.size wr w6 := ba1.trans ((Fr.of_grown (S := fun g => g = wr.heap.size) h62 (fun kk hk e => by simp [ablk] at e; exact e.symm)).below (by simp) (fun kk hk e => by omega)); have HW6 := Lib.hid h61; have b6 := bcr.below hf6; clear h61 h62 h63 HL1 HR1 bcr; obtain ⟨q0, q1, q2, q3, q4, q5, q6, q7, q8⟩ := cells9 b6; clear b6; have ba6 : Below w6.heap.size w6 (w6.alloc (.cells #[.string x.p, .int .i64 x.b, .bool x.m, .bool x.t, .int .i64 x.k, .int .i64 x.o, .int .i64 x.s, .int .i64 x.l, .int .i64 x.v] 26)) := (Below.refl _ _).alloc (Nat.le_refl _) _; have HW7 := Lib.hid (HW6.out.below ba6); have HR7 : Hid (Rd (w6.alloc (.cells #[.string x.p, .int .i64 x.b, .bool x.m, .bool x.t, .int .i64 x.k, .int .i64 x.o, .int .i64 x.s, .int .i64 x.l, .int .i64 x.v] 26)) (fun b => w6.heap.size ≤ b) 9 (some ⟨w6.heap.size, 0, none⟩) 1 (([x] : List CV).flatMap CV.cells)) := Lib.hid (Rd.lit rfl rfl rfl); have hf7 : Below wr.heap.size wr (w6.alloc (.cells #[.string x.p, .int .i64 x.b, .bool x.m, .bool x.t, .int .i64 x.k, .int .i64 x.o, .int .i64 x.s, .int .i64 x.l, .int .i64 x.v] 26)) := hf6.trans (ba6.mono hf6.size); have hs7 := hf7.size; clear HW6 ba6)
            | (refine wpList_append_row _ rfl (.tmp 30) (.tmp 32) 22 rfl wr.heap.size 26 i0 _ 9 72 Try.underlying22 hi0 hz0 hz1 hz2 rfl (by omega) rfl HW7.out rfl HR7.out HO2.out (by simp only [maxLen]; omega) (by omega) hs7 ?_; intro A8 c8 w8 h81 h82 h83; clear q0 q1 q2 q3 q4 q5 q6 q7 q8; have hf8 : Below wr.heap.size wr w8 := hf7.trans ((Fr.of_grown (S := fun g => ablk A6 = some g) h82 (fun kk hk e => e)).below hs7 (fun kk hk e => by have := (HW7.out.lt kk e).1; omega)); have HW8 := Lib.hid h81; have HR8 := Lib.hid (HDR.out w8 hf8); have hs8 := hf8.size; clear h81 h82 h83 HW7 HR7 hs7)
            | (refine wpList_append_row _ rfl (.tmp 34) (.tmp 37) 22 rfl wr.heap.size 26 i0 _ 9 72 Try.underlying22 hi0 hz0 hz1 hz2 rfl (by omega) rfl HW8.out rfl HR8.out HO3.out (by simp only [maxLen]; omega) (by omega) hs8 ?_; intro A9 c9 w9 h91 h92 h93; have hf9 : Below wr.heap.size wr w9 := hf8.trans ((Fr.of_grown (S := fun g => ablk A8 = some g) h92 (fun kk hk e => e)).below hs8 (fun kk hk e => by have := (HW8.out.lt kk e).1; omega)); have HW9 := Lib.hid h91; clear h91 h92 h93 HW8 HR8 hs8))
          have hll : k + 1 + (G.length - k) = (insC ltC x G).length := by rw [insC_len]; omega
          have HFI : Hid (RowC w9 w.heap.size A9 c9 (insC ltC x G)) := Lib.hid (by
            unfold RowC
            rw [← hll, HINS.out]
            have := HW9.out
            rw [← List.flatMap_append, ← List.flatMap_append, List.append_assoc, List.singleton_append] at this
            exact this.rebase (fun g hg => by have := (HW9.out.lt g hg).1; have := hbr.size; have := hw0; omega))
          have hfin : Below w.heap.size w w9 := hba.trans ((hbr.trans (hf9.mono hbr.size)).mono hba.size)
          go_ret
          exact ⟨A9, c9, by rw [← hll]; rfl, HFI.out, hfin⟩
        · have b3 : ¬ c - k = 0 := by omega
          have b4 : ¬ c = 0 := by omega
          have b5 : ¬ k = 0 := by omega
          have bcr := bc.below hb
          clear bc
          have HG := Lib.hid hr
          have hbr := hb
          have ba1 : Below wr.heap.size wr (wr.alloc (.cells #[] 26)) := (Below.refl _ _).alloc (Nat.le_refl _) _
          have HL1 := Lib.hid (rowC_lit wr)
          have HR1 : Hid (Rd (wr.alloc (.cells #[] 26)) (fun b => ablk (some ⟨g, off, none⟩) = some b) 9 (some ⟨g, off, none⟩) k ((G.take k).flatMap CV.cells)) := Lib.hid (by rw [← flat_takeC]; exact (hr.rd.below ba1).take hkG)
          have HO1 := Lib.hid (ch_one (G.take k))
          have HO2 := Lib.hid (ch_one [x])
          have HO3 := Lib.hid (ch_one (G.drop k))
          have HDR := Lib.hid (fun w8 (hb8 : Below wr.heap.size wr w8) => (hr.rd.below hb8).drop (k := k) (cap := c) hkG hroom)
          rw [if_neg hck, Option.map_some, add_none] at HDR
          simp only [flat_dropC] at HDR
          clear hr hb
          go_wp2_with (at_builtin; first
            | (refine wpList_append_row _ rfl (.tmp 25) (.tmp 28) 22 rfl wr.heap.size 26 i0 _ 9 72 Try.underlying22 hi0 hz0 hz1 hz2 rfl (by omega) rfl HL1.out rfl HR1.out HO1.out (by simp only [maxLen]; omega) (by omega) (by simp) ?_; intro A6 c6 w6 h61 h62 h63; rw [List.nil_append, Nat.zero_add] at h61; have hf6 : Below wr.heap.size wr w6 := ba1.trans ((Fr.of_grown (S := fun g => g = wr.heap.size) h62 (fun kk hk e => by simp [ablk] at e; exact e.symm)).below (by simp) (fun kk hk e => by omega)); have HW6 := Lib.hid h61; have b6 := bcr.below hf6; clear h61 h62 h63 HL1 HR1 bcr; obtain ⟨q0, q1, q2, q3, q4, q5, q6, q7, q8⟩ := cells9 b6; clear b6; have ba6 : Below w6.heap.size w6 (w6.alloc (.cells #[.string x.p, .int .i64 x.b, .bool x.m, .bool x.t, .int .i64 x.k, .int .i64 x.o, .int .i64 x.s, .int .i64 x.l, .int .i64 x.v] 26)) := (Below.refl _ _).alloc (Nat.le_refl _) _; have HW7 := Lib.hid (HW6.out.below ba6); have HR7 : Hid (Rd (w6.alloc (.cells #[.string x.p, .int .i64 x.b, .bool x.m, .bool x.t, .int .i64 x.k, .int .i64 x.o, .int .i64 x.s, .int .i64 x.l, .int .i64 x.v] 26)) (fun b => w6.heap.size ≤ b) 9 (some ⟨w6.heap.size, 0, none⟩) 1 (([x] : List CV).flatMap CV.cells)) := Lib.hid (Rd.lit rfl rfl rfl); have hf7 : Below wr.heap.size wr (w6.alloc (.cells #[.string x.p, .int .i64 x.b, .bool x.m, .bool x.t, .int .i64 x.k, .int .i64 x.o, .int .i64 x.s, .int .i64 x.l, .int .i64 x.v] 26)) := hf6.trans (ba6.mono hf6.size); have hs7 := hf7.size; clear HW6 ba6)
            | (refine wpList_append_row _ rfl (.tmp 30) (.tmp 32) 22 rfl wr.heap.size 26 i0 _ 9 72 Try.underlying22 hi0 hz0 hz1 hz2 rfl (by omega) rfl HW7.out rfl HR7.out HO2.out (by simp only [maxLen]; omega) (by omega) hs7 ?_; intro A8 c8 w8 h81 h82 h83; clear q0 q1 q2 q3 q4 q5 q6 q7 q8; have hf8 : Below wr.heap.size wr w8 := hf7.trans ((Fr.of_grown (S := fun g => ablk A6 = some g) h82 (fun kk hk e => e)).below hs7 (fun kk hk e => by have := (HW7.out.lt kk e).1; omega)); have HW8 := Lib.hid h81; have HR8 := Lib.hid (HDR.out w8 hf8); have hs8 := hf8.size; clear h81 h82 h83 HW7 HR7 hs7)
            | (refine wpList_append_row _ rfl (.tmp 34) (.tmp 37) 22 rfl wr.heap.size 26 i0 _ 9 72 Try.underlying22 hi0 hz0 hz1 hz2 rfl (by omega) rfl HW8.out rfl HR8.out HO3.out (by simp only [maxLen]; omega) (by omega) hs8 ?_; intro A9 c9 w9 h91 h92 h93; have hf9 : Below wr.heap.size wr w9 := hf8.trans ((Fr.of_grown (S := fun g => ablk A8 = some g) h92 (fun kk hk e => e)).below hs8 (fun kk hk e => by have := (HW8.out.lt kk e).1; omega)); have HW9 := Lib.hid h91; clear h91 h92 h93 HW8 HR8 hs8))
          have hll : k + 1 + (G.length - k) = (insC ltC x G).length := by rw [insC_len]; omega
          have HFI : Hid (RowC w9 w.heap.size A9 c9 (insC ltC x G)) := Lib.hid (by
            unfold RowC
            rw [← hll, HINS.out]
            have := HW9.out
            rw [← List.flatMap_append, ← List.flatMap_append, List.append_assoc, List.singleton_append] at this
            exact this.rebase (fun g hg => by have := (HW9.out.lt g hg).1; have := hbr.size; have := hw0; omega))
          have hfin : Below w.heap.size w w9 := hba.trans ((hbr.trans (hf9.mono hbr.size)).mono hba.size)
          go_ret
          exact ⟨A9, c9, by rw [← hll]; rfl, HFI.out, hfin⟩
    · have hkc : decide ((0 : Int) < (k : Int)) = false := decide_eq_false (by omega)
      have HINS : Hid (insC ltC x G = G.take k ++ x :: G.drop k) := Lib.hid (insC_at ordC HS.out (by omega) HK.out (fun i hi e => by omega))
      have hb' := hb
      have hr' := hr
      clear hr
      go_wp2_with fail
      refine wp_region_b 14 (by kernel_rfl) (by kernel_rfl) ?_
      simp only [List.take_succ_cons, List.take_zero, List.drop_succ_cons, List.drop_zero]
      refine lb_move _ (by kernel_rfl) rfl ⟨_, (by ((try simp [go_sem]); (try rfl); done)), _, (by (simp only [Act.put, List.setIfInBounds_toArray, List.set_cons_zero, List.set_cons_succ]; rfl)), ?_⟩
      refine lb_val (by kernel_rfl) ⟨_, (by (intro w' hC; clear hC; (try go_simp); (try with_reducible rfl); done)), _, (by (simp only [Act.put, List.setIfInBounds_toArray, List.set_cons_zero, List.set_cons_succ]; rfl)), ?_⟩
      refine lb_move _ (by kernel_rfl) rfl ⟨_, (by ((try simp [go_sem]); (try rfl); done)), _, (by (simp only [Act.put, List.setIfInBounds_toArray, List.set_cons_zero, List.set_cons_succ]; rfl)), ?_⟩
      first | (refine lb_skip (by rfl) ⟨_, (by (simp only [Act.put, List.setIfInBounds_toArray, List.set_cons_zero, List.set_cons_succ]; rfl)), ?_⟩) | (refine lb_move _ (by kernel_rfl) rfl ⟨_, (by ((try simp [go_sem]); (try rfl); done)), _, (by (simp only [Act.put, List.setIfInBounds_toArray, List.set_cons_zero, List.set_cons_succ]; rfl)), ?_⟩)
      first | (refine lb_skip (by rfl) ⟨_, (by (simp only [Act.put, List.setIfInBounds_toArray, List.set_cons_zero, List.set_cons_succ]; rfl)), ?_⟩) | (refine lb_move _ (by kernel_rfl) rfl ⟨_, (by ((try simp [go_sem]); (try rfl); done)), _, (by (simp only [Act.put, List.setIfInBounds_toArray, List.set_cons_zero, List.set_cons_succ]; rfl)), ?_⟩)
      first | (refine lb_skip (by rfl) ⟨_, (by (simp only [Act.put, List.setIfInBounds_toArray, List.set_cons_zero, List.set_cons_succ]; rfl)), ?_⟩) | (refine lb_val (by kernel_rfl) ⟨_, (by (intro w' hC; clear hC; (try go_simp); (try with_reducible rfl); done)), _, (by (simp only [Act.put, List.setIfInBounds_toArray, List.set_cons_zero, List.set_cons_succ]; rfl)), ?_⟩)
      first | (refine lb_skip (by rfl) ⟨_, (by (simp only [Act.put, List.setIfInBounds_toArray, List.set_cons_zero, List.set_cons_succ]; rfl)), ?_⟩) | (refine lb_val (by kernel_rfl) ⟨_, (by (intro w' hC; clear hC; (try go_simp); (try with_reducible rfl); done)), _, (by (simp only [Act.put, List.setIfInBounds_toArray, List.set_cons_zero, List.set_cons_succ]; rfl)), ?_⟩)
      first | (refine lb_skip (by rfl) ⟨_, (by (simp only [Act.put, List.setIfInBounds_toArray, List.set_cons_zero, List.set_cons_succ]; rfl)), ?_⟩) | (refine lb_val (by kernel_rfl) ⟨_, (by (intro w' hC; clear hC; (try go_simp); (try with_reducible rfl); done)), _, (by (simp only [Act.put, List.setIfInBounds_toArray, List.set_cons_zero, List.set_cons_succ]; rfl)), ?_⟩)
      first | (refine lb_skip (by rfl) ⟨_, (by (simp only [Act.put, List.setIfInBounds_toArray, List.set_cons_zero, List.set_cons_succ]; rfl)), ?_⟩) | (refine lb_val (by kernel_rfl) ⟨_, (by (intro w' hC; (obtain ⟨y0, y1, y2, y3, y4, y5, y6, y7, y8⟩ := hy9.below hgb hC); clear hC; (try go_simp); (try with_reducible rfl); done)), _, (by (simp only [Act.put, List.setIfInBounds_toArray, List.set_cons_zero, List.set_cons_succ]; rfl)), ?_⟩)
      first | (refine lb_skip (by rfl) ⟨_, (by (simp only [Act.put, List.setIfInBounds_toArray, List.set_cons_zero, List.set_cons_succ]; rfl)), ?_⟩) | (refine lb_val (by kernel_rfl) ⟨_, (by (intro w' hC; clear hC; (try go_simp); (try with_reducible rfl); done)), _, (by (simp only [Act.put, List.setIfInBounds_toArray, List.set_cons_zero, List.set_cons_succ]; rfl)), ?_⟩)
      first | (refine lb_skip (by rfl) ⟨_, (by (simp only [Act.put, List.setIfInBounds_toArray, List.set_cons_zero, List.set_cons_succ]; rfl)), ?_⟩) | (refine lb_val (by kernel_rfl) ⟨_, (by (intro w' hC; (obtain ⟨q0, q1, q2, q3, q4, q5, q6, q7, q8⟩ := cells9 (bc.below hC)); clear hC; (try go_simp); (try with_reducible rfl); done)), _, (by (simp only [Act.put, List.setIfInBounds_toArray, List.set_cons_zero, List.set_cons_succ]; rfl)), ?_⟩)
      first | (refine lb_skip (by rfl) ⟨_, (by (simp only [Act.put, List.setIfInBounds_toArray, List.set_cons_zero, List.set_cons_succ]; rfl)), ?_⟩) | (refine lb_call (by kernel_rfl) (fun w' hC => HCM.out w' hC) (by (intro w'; go_simp; done)) ⟨_, (by (simp only [Act.put, List.setIfInBounds_toArray, List.set_cons_zero, List.set_cons_succ]; rfl)), ?_⟩)
      first | (refine lb_skip (by rfl) ⟨_, (by (simp only [Act.put, List.setIfInBounds_toArray, List.set_cons_zero, List.set_cons_succ]; rfl)), ?_⟩) | (refine lb_val (by kernel_rfl) ⟨_, (by (intro w' hC; clear hC; (try go_simp); (try with_reducible rfl); done)), _, (by (simp only [Act.put, List.setIfInBounds_toArray, List.set_cons_zero, List.set_cons_succ]; rfl)), ?_⟩)
      refine lb_val (by kernel_rfl) ⟨_, (by (intro w' hC; clear hC; (try go_simp); (try with_reducible rfl); done)), _, (by (simp only [Act.put, List.setIfInBounds_toArray, List.set_cons_zero, List.set_cons_succ]; rfl)), ?_⟩
      refine .nil ?_
      intro w2 hb2
      have hr := hr'.below hb2
      have hbo := hb
      clear hb
      have hb := hb'.trans (hb2.mono hb'.size)
      clear hb2 hb' hr' hr0 hbo wr
      rename World => wr
      rcases A with _ | a
      · have hcz := (hr.nil rfl)
        obtain ⟨hG0, hc0⟩ := hcz
        obtain rfl : k = 0 := by omega
        obtain rfl : G = [] := List.eq_nil_of_length_eq_zero hG0
        subst hc0
        clear hG0
        have bcr := bc.below hb
        clear bc
        have HG := Lib.hid hr
        have hbr := hb
        have ba1 : Below wr.heap.size wr (wr.alloc (.cells #[] 26)) := (Below.refl _ _).alloc (Nat.le_refl _) _
        have HL1 := Lib.hid (rowC_lit wr)
        have HR1 : Hid (Rd (wr.alloc (.cells #[] 26)) (fun b => ablk none = some b) 9 none 0 ((([] : List CV).take 0).flatMap CV.cells)) := Lib.hid (by rw [← flat_takeC]; exact (hr.rd.below ba1).take hkG)
        have HO1 := Lib.hid (ch_one (([] : List CV).take 0))
        have HO2 := Lib.hid (ch_one [x])
        have HO3 := Lib.hid (ch_one (([] : List CV).drop 0))
        have HDR := Lib.hid (fun w8 (hb8 : Below wr.heap.size wr w8) => (hr.rd.below hb8).drop (k := 0) (cap := 0) hkG hroom)
        simp only [flat_dropC, Option.map_none, ite_self] at HDR
        clear hr hb
        go_wp2_with (at_builtin; first
          | (refine wpList_append_row _ rfl (.tmp 25) (.tmp 28) 22 rfl wr.heap.size 26 i0 _ 9 72 Try.underlying22 hi0 hz0 hz1 hz2 rfl (by omega) rfl HL1.out rfl HR1.out HO1.out (by simp only [maxLen]; omega) (by omega) (by simp) ?_; intro A6 c6 w6 h61 h62 h63; rw [List.nil_append, Nat.zero_add] at h61; have hf6 : Below wr.heap.size wr w6 := ba1.trans ((Fr.of_grown (S := fun g => g = wr.heap.size) h62 (fun kk hk e => by simp [ablk] at e; exact e.symm)).below (by simp) (fun kk hk e => by omega)); have HW6 := Lib.hid h61; have b6 := bcr.below hf6; clear h61 h62 h63 HL1 HR1 bcr; obtain ⟨q0, q1, q2, q3, q4, q5, q6, q7, q8⟩ := cells9 b6; clear b6; have ba6 : Below w6.heap.size w6 (w6.alloc (.cells #[.string x.p, .int .i64 x.b, .bool x.m, .bool x.t, .int .i64 x.k, .int .i64 x.o, .int .i64 x.s, .int .i64 x.l, .int .i64 x.v] 26)) := (Below.refl _ _).alloc (Nat.le_refl _) _; have HW7 := Lib.hid (HW6.out.below ba6); have HR7 : Hid (Rd (w6.alloc (.cells #[.string x.p, .int .i64 x.b, .bool x.m, .bool x.t, .int .i64 x.k, .int .i64 x.o, .int .i64 x.s, .int .i64 x.l, .int .i64 x.v] 26)) (fun b => w6.heap.size ≤ b) 9 (some ⟨w6.heap.size, 0, none⟩) 1 (([x] : List CV).flatMap CV.cells)) := Lib.hid (Rd.lit rfl rfl rfl); have hf7 : Below wr.heap.size wr (w6.alloc (.cells #[.string x.p, .int .i64 x.b, .bool x.m, .bool x.t, .int .i64 x.k, .int .i64 x.o, .int .i64 x.s, .int .i64 x.l, .int .i64 x.v] 26)) := hf6.trans (ba6.mono hf6.size); have hs7 := hf7.size; clear HW6 ba6)
          | (refine wpList_append_row _ rfl (.tmp 30) (.tmp 32) 22 rfl wr.heap.size 26 i0 _ 9 72 Try.underlying22 hi0 hz0 hz1 hz2 rfl (by omega) rfl HW7.out rfl HR7.out HO2.out (by simp only [maxLen]; omega) (by omega) hs7 ?_; intro A8 c8 w8 h81 h82 h83; clear q0 q1 q2 q3 q4 q5 q6 q7 q8; have hf8 : Below wr.heap.size wr w8 := hf7.trans ((Fr.of_grown (S := fun g => ablk A6 = some g) h82 (fun kk hk e => e)).below hs7 (fun kk hk e => by have := (HW7.out.lt kk e).1; omega)); have HW8 := Lib.hid h81; have HR8 := Lib.hid (HDR.out w8 hf8); have hs8 := hf8.size; clear h81 h82 h83 HW7 HR7 hs7)
          | (refine wpList_append_row _ rfl (.tmp 34) (.tmp 37) 22 rfl wr.heap.size 26 i0 _ 9 72 Try.underlying22 hi0 hz0 hz1 hz2 rfl (by omega) rfl HW8.out rfl HR8.out HO3.out (by simp only [maxLen]; omega) (by omega) hs8 ?_; intro A9 c9 w9 h91 h92 h93; have hf9 : Below wr.heap.size wr w9 := hf8.trans ((Fr.of_grown (S := fun g => ablk A8 = some g) h92 (fun kk hk e => e)).below hs8 (fun kk hk e => by have := (HW8.out.lt kk e).1; omega)); have HW9 := Lib.hid h91; clear h91 h92 h93 HW8 HR8 hs8))
        have hll : 0 + 1 + (([] : List CV).length - 0) = (insC ltC x ([] : List CV)).length := by rw [insC_len]; omega
        have HFI : Hid (RowC w9 w.heap.size A9 c9 (insC ltC x ([] : List CV))) := Lib.hid (by
          unfold RowC
          rw [← hll, HINS.out]
          have := HW9.out
          rw [← List.flatMap_append, ← List.flatMap_append, List.append_assoc, List.singleton_append] at this
          exact this.rebase (fun g hg => by have := (HW9.out.lt g hg).1; have := hbr.size; have := hw0; omega))
        have hfin : Below w.heap.size w w9 := hba.trans ((hbr.trans (hf9.mono hbr.size)).mono hba.size)
        go_ret
        exact ⟨A9, c9, by rw [← hll]; rfl, HFI.out, hfin⟩
      · have hGp : 0 < G.length := HA.out.resolve_left (by simp)
        obtain ⟨g, off, hao, _, hgb⟩ := hr.addr hGp
        injection hao with hao
        subst hao
        have hcp : 0 < c := by omega
        have hck : ¬ c = k := by omega
        have b3 : ¬ c - k = 0 := by omega
        have b4 : ¬ c = 0 := by omega
        have bcr := bc.below hb
        clear bc
        have HG := Lib.hid hr
        have hbr := hb
        have ba1 : Below wr.heap.size wr (wr.alloc (.cells #[] 26)) := (Below.refl _ _).alloc (Nat.le_refl _) _
        have HL1 := Lib.hid (rowC_lit wr)
        have HR1 : Hid (Rd (wr.alloc (.cells #[] 26)) (fun b => ablk (some ⟨g, off, none⟩) = some b) 9 (some ⟨g, off, none⟩) k ((G.take k).flatMap CV.cells)) := Lib.hid (by rw [← flat_takeC]; exact (hr.rd.below ba1).take hkG)
        have HO1 := Lib.hid (ch_one (G.take k))
        have HO2 := Lib.hid (ch_one [x])
        have HO3 := Lib.hid (ch_one (G.drop k))
        have HDR := Lib.hid (fun w8 (hb8 : Below wr.heap.size wr w8) => (hr.rd.below hb8).drop (k := k) (cap := c) hkG hroom)
        rw [if_neg hck, Option.map_some, add_none] at HDR
        simp only [flat_dropC] at HDR
        clear hr hb
        go_wp2_with (at_builtin; first
          | (refine wpList_append_row _ rfl (.tmp 25) (.tmp 28) 22 rfl wr.heap.size 26 i0 _ 9 72 Try.underlying22 hi0 hz0 hz1 hz2 rfl (by omega) rfl HL1.out rfl HR1.out HO1.out (by simp only [maxLen]; omega) (by omega) (by simp) ?_; intro A6 c6 w6 h61 h62 h63; rw [List.nil_append, Nat.zero_add] at h61; have hf6 : Below wr.heap.size wr w6 := ba1.trans ((Fr.of_grown (S := fun g => g = wr.heap.size) h62 (fun kk hk e => by simp [ablk] at e; exact e.symm)).below (by simp) (fun kk hk e => by omega)); have HW6 := Lib.hid h61; have b6 := bcr.below hf6; clear h61 h62 h63 HL1 HR1 bcr; obtain ⟨q0, q1, q2, q3, q4, q5, q6, q7, q8⟩ := cells9 b6; clear b6; have ba6 : Below w6.heap.size w6 (w6.alloc (.cells #[.string x.p, .int .i64 x.b, .bool x.m, .bool x.t, .int .i64 x.k, .int .i64 x.o, .int .i64 x.s, .int .i64 x.l, .int .i64 x.v] 26)) := (Below.refl _ _).alloc (Nat.le_refl _) _; have HW7 := Lib.hid (HW6.out.below ba6); have HR7 : Hid (Rd (w6.alloc (.cells #[.string x.p, .int .i64 x.b, .bool x.m, .bool x.t, .int .i64 x.k, .int .i64 x.o, .int .i64 x.s, .int .i64 x.l, .int .i64 x.v] 26)) (fun b => w6.heap.size ≤ b) 9 (some ⟨w6.heap.size, 0, none⟩) 1 (([x] : List CV).flatMap CV.cells)) := Lib.hid (Rd.lit rfl rfl rfl); have hf7 : Below wr.heap.size wr (w6.alloc (.cells #[.string x.p, .int .i64 x.b, .bool x.m, .bool x.t, .int .i64 x.k, .int .i64 x.o, .int .i64 x.s, .int .i64 x.l, .int .i64 x.v] 26)) := hf6.trans (ba6.mono hf6.size); have hs7 := hf7.size; clear HW6 ba6)
          | (refine wpList_append_row _ rfl (.tmp 30) (.tmp 32) 22 rfl wr.heap.size 26 i0 _ 9 72 Try.underlying22 hi0 hz0 hz1 hz2 rfl (by omega) rfl HW7.out rfl HR7.out HO2.out (by simp only [maxLen]; omega) (by omega) hs7 ?_; intro A8 c8 w8 h81 h82 h83; clear q0 q1 q2 q3 q4 q5 q6 q7 q8; have hf8 : Below wr.heap.size wr w8 := hf7.trans ((Fr.of_grown (S := fun g => ablk A6 = some g) h82 (fun kk hk e => e)).below hs7 (fun kk hk e => by have := (HW7.out.lt kk e).1; omega)); have HW8 := Lib.hid h81; have HR8 := Lib.hid (HDR.out w8 hf8); have hs8 := hf8.size; clear h81 h82 h83 HW7 HR7 hs7)
          | (refine wpList_append_row _ rfl (.tmp 34) (.tmp 37) 22 rfl wr.heap.size 26 i0 _ 9 72 Try.underlying22 hi0 hz0 hz1 hz2 rfl (by omega) rfl HW8.out rfl HR8.out HO3.out (by simp only [maxLen]; omega) (by omega) hs8 ?_; intro A9 c9 w9 h91 h92 h93; have hf9 : Below wr.heap.size wr w9 := hf8.trans ((Fr.of_grown (S := fun g => ablk A8 = some g) h92 (fun kk hk e => e)).below hs8 (fun kk hk e => by have := (HW8.out.lt kk e).1; omega)); have HW9 := Lib.hid h91; clear h91 h92 h93 HW8 HR8 hs8))
        have hll : k + 1 + (G.length - k) = (insC ltC x G).length := by rw [insC_len]; omega
        have HFI : Hid (RowC w9 w.heap.size A9 c9 (insC ltC x G)) := Lib.hid (by
          unfold RowC
          rw [← hll, HINS.out]
          have := HW9.out
          rw [← List.flatMap_append, ← List.flatMap_append, List.append_assoc, List.singleton_append] at this
          exact this.rebase (fun g hg => by have := (HW9.out.lt g hg).1; have := hbr.size; have := hw0; omega))
        have hfin : Below w.heap.size w w9 := hba.trans ((hbr.trans (hf9.mono hbr.size)).mono hba.size)
        go_ret
        exact ⟨A9, c9, by rw [← hll]; rfl, HFI.out, hfin⟩

end Go.Proofs.Ytkeledbgmpienaa

/- tenderref28: Plan. -/
namespace Go.Proofs.Ytkeledbgmpienaa
open Go.RowKit Go.WideShapes Go.ChangeShapes Go.ChangeAt

theorem planS_eq (l : List CV) : planS l = (sortC ltC (l.filter remB)).reverse ++ sortC ltC (l.filter keepB) := by
  unfold planS
  rw [sortC_filter ordC, sortC_filter ordC]

set_option maxRecDepth 100000 in
set_option maxHeartbeats 2000000 in
theorem orderPlanR_any (A : Option Addr) (c : Nat) (l : List CV) (Z : Nat → Prop) (w : World) (h : Chs w Z A l) (hp : ∀ x ∈ l, x.p.size ≤ 1048576) (hl : l.length ≤ 1000) :
    Calls Try.prog 11 #[.slice A l.length c] w fun e w' => ∃ (A' : Option Addr) (c' : Nat), e = .returned (.slice A' (planS l).length c') ∧ RowC w' w.heap.size A' c' (planS l) ∧ Below w.heap.size w w' := by
  obtain ⟨i0, hi0, hz0, hz1, hz2⟩ := info_parts ch_info
  have HH := Lib.hid h
  have HP := Lib.hid hp
  obtain ⟨PP, hR⟩ : ∃ PP, PP = planS l := ⟨_, rfl⟩
  have HR0 : Hid (PP = (sortC ltC (l.filter remB)).reverse ++ sortC ltC (l.filter keepB)) := Lib.hid (by rw [hR, planS_eq])
  rw [← hR]
  clear h hp hR
  go_enter Try.func11, Try.ntmps11
  go_wp2_with fail
  go_loopw [3, 4, 6] (fun gv rv iv wr => ∃ (i : Nat) (AG : Option Addr) (cG : Nat) (G : List CV) (AR : Option Addr) (cR : Nat) (Rr : List CV), i ≤ l.length ∧ iv = .int .i64 (i : Int) ∧ gv = .slice AG G.length cG ∧ rv = .slice AR Rr.length cR ∧ Hid (G = sortC ltC ((l.take i).filter remB)) ∧ Hid (Rr = sortC ltC ((l.take i).filter keepB)) ∧ Hid (AG = none ∨ 0 < G.length) ∧ Hid (AR = none ∨ 0 < Rr.length) ∧ RowC wr w.heap.size AG cG G ∧ RowC wr w.heap.size AR cR Rr ∧ Below w.heap.size w wr) (fun _ _ iv _ => l.length - (intOf iv).toNat)
  case atStart => exact ⟨0, none, 0, [], none, 0, [], Nat.zero_le _, rfl, rfl, rfl, Lib.hid rfl, Lib.hid rfl, Lib.hid (.inl rfl), Lib.hid (.inl rfl), Row.none_ _ _ _ _, Row.none_ _ _ _ _, Below.refl _ _⟩
  case round =>
    obtain ⟨i, AG, cG, G, AR, cR, R', hi, rfl, rfl, rfl, hG, hRr, hGn, hRn', hrG, hrR, hb⟩ := hrel
    obtain ⟨R, hRR⟩ : ∃ R, R = R' := ⟨_, rfl⟩
    subst hRR
    have hR := hRr
    have hRn := hRn'
    have hGl : G.length ≤ i := by
      rw [hG.out, sortC_len]; have h1 := List.length_filter_le remB (l.take i); rw [List.length_take] at h1; omega
    have hRl : R.length ≤ i := by
      rw [hR.out, sortC_len]; have h1 := List.length_filter_le keepB (l.take i); rw [List.length_take] at h1; omega
    by_cases hlt : i < l.length
    · obtain ⟨x, hx⟩ : ∃ x, x = l[i] := ⟨_, rfl⟩
      have hxm : x ∈ l := by rw [hx]; exact List.getElem_mem hlt
      have hxp := HP.out x hxm
      have HAT := Lib.hid (fun (W : World) (hW : Below w.heap.size w W) => ch_at (HH.out.rd.below hW) hlt)
      rw [← hx] at HAT
      obtain ⟨b, off, rfl, _, hbb, at1⟩ := HAT.out wr hb
      have HAT2 : Hid (∀ (W : World), Below w.heap.size w W → At9 W b (off + i * 9) x) := Lib.hid (fun W hW => by
        obtain ⟨b', off', e, _, _, at2⟩ := HAT.out W hW
        injection e with e
        injection e with e1 e2
        subst e1 e2
        exact at2)
      have HG1 : Hid (sortC ltC ((l.take (i + 1)).filter remB) = if remB x = true then insC ltC x G else G) := Lib.hid (by
        rw [filter_take hlt hx.symm, hG.out]
        split
        · rw [sortC_snoc]
        · rw [List.append_nil])
      have HR1 : Hid (sortC ltC ((l.take (i + 1)).filter keepB) = if keepB x = true then insC ltC x R else R) := Lib.hid (by
        rw [filter_take hlt hx.symm, hR.out]
        split
        · rw [sortC_snoc]
        · rw [List.append_nil])
      clear hx HAT hRr hRn'
      obtain ⟨a0, a1, a2, a3, a4, a5, a6, a7, a8⟩ := at1
      go_wp2_with fail
      refine (removesR_any x wr).mono ?_
      rintro e w4 ⟨rfl, hb4⟩
      have hr4 := hb.trans (hb4.mono hb.size)
      replace hrG := hrG.below hb4
      replace hrR := hrR.below hb4
      clear a0 a1 a2 a3 a4 a5 a6 a7 a8
      have at1 := HAT2.out w4 hr4
      obtain ⟨a0, a1, a2, a3, a4, a5, a6, a7, a8⟩ := at1
      clear hb4 hbb
      rcases hrm : remB x with _ | _
      · have HKB : Hid (keepB x = restB x) := Lib.hid (by unfold keepB; rw [hrm]; rfl)
        have HGA : Hid (sortC ltC ((l.take (i + 1)).filter remB) = G) := Lib.hid (by rw [HG1.out, hrm]; simp)
        obtain ⟨M, hM⟩ : ∃ M, M = movesB x.v := ⟨_, rfl⟩
        have HMV := Lib.hid (movesR_any x.p x.b x.m x.t x.k x.o x.s x.l x.v w4)
        rw [← hM] at HMV
        go_wp2_with fail
        refine HMV.out.mono ?_
        rintro e w5 ⟨rfl, hb5⟩
        have hr5 := hr4.trans (hb5.mono hr4.size)
        replace hrG := hrG.below hb5
        replace hrR := hrR.below hb5
        clear a0 a1 a2 a3 a4 a5 a6 a7 a8
        have at1 := HAT2.out w5 hr5
        obtain ⟨a0, a1, a2, a3, a4, a5, a6, a7, a8⟩ := at1
        clear hb5 HMV
        rcases hk : keepB x with _ | _
        · have HRA : Hid (sortC ltC ((l.take (i + 1)).filter keepB) = R) := Lib.hid (by rw [HR1.out, hk]; simp)
          have hrs : (movesB x.v || x.v == 3) = false := by rw [← hk, HKB.out]; rfl
          rw [← hM, Bool.or_eq_false_iff] at hrs
          obtain ⟨rfl, h3⟩ := hrs
          clear hM
          have HrG := Lib.hid hrG
          have HrR := Lib.hid hrR
          clear hrG hrR
          go_wp2_with fail
          go_roundw
          case rel => exact ⟨i + 1, AG, cG, G, AR, cR, R, hlt, by go_num, rfl, rfl, Lib.hid HGA.out.symm, Lib.hid HRA.out.symm, hGn, hRn, HrG.out, HrR.out, hr5⟩
          case measure => simp [intOf]; omega
        · have HRA : Hid (sortC ltC ((l.take (i + 1)).filter keepB) = insC ltC x R) := Lib.hid (by rw [HR1.out, hk]; simp)
          have hrs : (movesB x.v || x.v == 3) = true := by rw [← hk, HKB.out]; rfl
          rw [← hM] at hrs
          clear hM
          rcases M with _ | _
          · rw [Bool.false_or] at hrs
            have HPUT := Lib.hid (put28_any AR cR w.heap.size R x w5 hrR hRn.out (by rw [hR.out]; exact sortC_sorted ordC _) (fun y hy => HP.out y (by rw [hR.out] at hy; exact List.mem_of_mem_take (List.mem_filter.1 (sortC_mem.1 hy)).1)) hxp (by omega) hrR.cap)
            have HRO := Lib.hid hrG
            have HRM := Lib.hid hrR
            clear hrG hrR
            go_wp2_with fail
            refine HPUT.out.mono ?_
            rintro e w7 ⟨A7, c7, rfl, hr7, hb7⟩
            have hw7 := hr5.trans (hb7.mono hr5.size)
            have HOLD := Lib.hid (HRO.out.below hb7)
            have HNEW : Hid (RowC w7 w.heap.size A7 c7 (insC ltC x R)) := Lib.hid (Row.rebase hr7 (fun g hg => Nat.le_trans hr5.size (hr7.lt g hg).1))
            have HNN : Hid (A7 = none ∨ 0 < (insC ltC x R).length) := Lib.hid (.inr (by rw [insC_len]; omega))
            clear hr7 hb7 HRO HRM HPUT
            go_wp2_with fail
            go_roundw
            case rel => exact ⟨i + 1, AG, cG, G, A7, c7, insC ltC x R, hlt, by go_num, rfl, rfl, Lib.hid HGA.out.symm, Lib.hid HRA.out.symm, hGn, HNN, HOLD.out, HNEW.out, hw7⟩
            case measure => simp [intOf]; omega
          · clear hrs
            have HPUT := Lib.hid (put28_any AR cR w.heap.size R x w5 hrR hRn.out (by rw [hR.out]; exact sortC_sorted ordC _) (fun y hy => HP.out y (by rw [hR.out] at hy; exact List.mem_of_mem_take (List.mem_filter.1 (sortC_mem.1 hy)).1)) hxp (by omega) hrR.cap)
            have HRO := Lib.hid hrG
            have HRM := Lib.hid hrR
            clear hrG hrR
            go_wp2_with fail
            refine HPUT.out.mono ?_
            rintro e w7 ⟨A7, c7, rfl, hr7, hb7⟩
            have hw7 := hr5.trans (hb7.mono hr5.size)
            have HOLD := Lib.hid (HRO.out.below hb7)
            have HNEW : Hid (RowC w7 w.heap.size A7 c7 (insC ltC x R)) := Lib.hid (Row.rebase hr7 (fun g hg => Nat.le_trans hr5.size (hr7.lt g hg).1))
            have HNN : Hid (A7 = none ∨ 0 < (insC ltC x R).length) := Lib.hid (.inr (by rw [insC_len]; omega))
            clear hr7 hb7 HRO HRM HPUT
            go_wp2_with fail
            go_roundw
            case rel => exact ⟨i + 1, AG, cG, G, A7, c7, insC ltC x R, hlt, by go_num, rfl, rfl, Lib.hid HGA.out.symm, Lib.hid HRA.out.symm, hGn, HNN, HOLD.out, HNEW.out, hw7⟩
            case measure => simp [intOf]; omega
      · have HGA : Hid (sortC ltC ((l.take (i + 1)).filter remB) = insC ltC x G) := Lib.hid (by rw [HG1.out, hrm]; simp)
        have HRA : Hid (sortC ltC ((l.take (i + 1)).filter keepB) = R) := Lib.hid (by rw [HR1.out, show keepB x = false by unfold keepB; rw [hrm]; rfl]; simp)
        have HPUT := Lib.hid (put28_any AG cG w.heap.size G x w4 hrG hGn.out (by rw [hG.out]; exact sortC_sorted ordC _) (fun y hy => HP.out y (by rw [hG.out] at hy; exact List.mem_of_mem_take (List.mem_filter.1 (sortC_mem.1 hy)).1)) hxp (by omega) hrG.cap)
        have HRO := Lib.hid hrR
        have HRM := Lib.hid hrG
        clear hrG hrR
        go_wp2_with fail
        refine HPUT.out.mono ?_
        rintro e w7 ⟨A7, c7, rfl, hr7, hb7⟩
        have hw7 := hr4.trans (hb7.mono hr4.size)
        have HOLD := Lib.hid (HRO.out.below hb7)
        have HNEW : Hid (RowC w7 w.heap.size A7 c7 (insC ltC x G)) := Lib.hid (Row.rebase hr7 (fun g hg => Nat.le_trans hr4.size (hr7.lt g hg).1))
        have HNN : Hid (A7 = none ∨ 0 < (insC ltC x G).length) := Lib.hid (.inr (by rw [insC_len]; omega))
        clear hr7 hb7 HRO HRM HPUT
        go_wp2_with fail
        go_roundw
        case rel => exact ⟨i + 1, A7, c7, insC ltC x G, AR, cR, R, hlt, by go_num, rfl, rfl, Lib.hid HGA.out.symm, Lib.hid HRA.out.symm, HNN, hRn, HNEW.out, HOLD.out, hw7⟩
        case measure => simp [intOf]; omega
    · have e : i = l.length := by omega
      subst e
      rw [List.take_length] at hG hR
      have HEQ : Hid (PP = G.reverse ++ R) := Lib.hid (by rw [HR0.out, hG.out, hR.out])
      have HrG := Lib.hid hrG
      have HrR := Lib.hid hrR
      have hltG := hrG.lt
      have hltR := hrR.lt
      clear hrG hrR hG hR hRr HR0 HP HH hGn hRn hRn'
      rename World => w2
      have hw2 := hb.size
      go_wp2_with fail
      go_loopw [5, 7] (fun ov jv wr => ∃ (d : Nat) (AO : Option Addr) (cO : Nat) (O : List CV), d ≤ G.length ∧ jv = .int .i64 ((G.length : Int) - 1 - (d : Int)) ∧ ov = .slice AO O.length cO ∧ Hid (O = G.reverse.take d) ∧ RowC wr w2.heap.size AO cO O ∧ Below w2.heap.size w2 wr) (fun _ jv _ => (intOf jv + 1).toNat)
      case atStart => exact ⟨0, none, 0, [], Nat.zero_le _, by simp, rfl, Lib.hid rfl, Row.none_ _ _ _ _, Below.refl _ _⟩
      case round =>
        obtain ⟨d, AO, cO, O, hd, rfl, rfl, hO, hrO, hbO⟩ := hrel
        have hOl : O.length ≤ d := by rw [hO.out, List.length_take, List.length_reverse]; omega
        by_cases hdl : d < G.length
        · obtain ⟨k, hk⟩ : ∃ k : Nat, (k : Int) = (G.length : Int) - 1 - (d : Int) := ⟨G.length - 1 - d, by omega⟩
          have hkG : k < G.length := by omega
          obtain ⟨x, hx⟩ : ∃ x, x = G[k] := ⟨_, rfl⟩
          have HO2 : Hid (O ++ [x] = G.reverse.take (d + 1)) := Lib.hid (by
            rw [List.take_succ_eq_append_getElem (by rw [List.length_reverse]; exact hdl), ← hO.out, hx, List.getElem_reverse]
            congr 3
            omega)
          obtain ⟨b, off, rfl, _, hbb, at1⟩ := ch_at (HrG.out.rd.below hbO) hkG
          rw [← hx] at at1
          have hwk : IntKind.i64.wrap ((k : Int) - 1) = (k : Int) - 1 := by rw [IntKind.wrap_i64]; omega
          have hgk : decide ((0 : Int) ≤ (k : Int)) = true := decide_eq_true (by omega)
          have HK := Lib.hid hk
          rw [← hk]
          have ba : Below wr.heap.size wr (wr.alloc (.cells #[.string x.p, .int .i64 x.b, .bool x.m, .bool x.t, .int .i64 x.k, .int .i64 x.o, .int .i64 x.s, .int .i64 x.l, .int .i64 x.v] 26)) := (Below.refl _ _).alloc (Nat.le_refl _) _
          have HRO := Lib.hid (hrO.below ba)
          have HRX : Hid (Rd (wr.alloc (.cells #[.string x.p, .int .i64 x.b, .bool x.m, .bool x.t, .int .i64 x.k, .int .i64 x.o, .int .i64 x.s, .int .i64 x.l, .int .i64 x.v] 26)) (fun b => wr.heap.size ≤ b) 9 (some ⟨wr.heap.size, 0, none⟩) 1 (CV.cells x)) := Lib.hid (Rd.lit rfl rfl rfl)
          have hb6 := hbO.trans (ba.mono hbO.size)
          have hsz := hb6.size
          clear hx hk hrO hO
          obtain ⟨a0, a1, a2, a3, a4, a5, a6, a7, a8⟩ := at1
          go_wp2_with (at_builtin; refine wpList_append_row _ rfl (.tmp 51) (.tmp 56) 22 rfl w2.heap.size 26 i0 _ 9 72 Try.underlying22 hi0 hz0 hz1 hz2 rfl (by omega) rfl HRO.out rfl HRX.out (fun u hu => ch_one [x] u (by simpa using hu)) (by simp only [maxLen]; omega) (by omega) hsz ?_; intro A7 c7 w7 h71 h72 h73)
          have hf7 : Fr (fun b => ablk AO = some b) (wr.alloc (.cells #[.string x.p, .int .i64 x.b, .bool x.m, .bool x.t, .int .i64 x.k, .int .i64 x.o, .int .i64 x.s, .int .i64 x.l, .int .i64 x.v] 26)) w7 := Fr.of_grown h72 (fun _ _ e => e)
          have hr7 : Below w2.heap.size w2 w7 := hb6.trans (hf7.below hsz (fun k hk e => by have := (HRO.out.lt k e).1; omega))
          have HNEW : Hid (RowC w7 w2.heap.size A7 c7 (O ++ [x])) := Lib.hid (by
            unfold RowC
            rw [List.length_append, List.flatMap_append, List.flatMap_cons, List.flatMap_nil, List.append_nil]; exact h71)
          clear h71 h72 h73 hf7 HRO HRX hbb
          go_wp2_with fail
          go_roundw
          case rel => exact ⟨d + 1, A7, c7, O ++ [x], hdl, by have := HK.out; congr 1; omega, by rw [List.length_append]; rfl, HO2, HNEW.out, hr7⟩
          case measure => have := HK.out; simp [intOf] <;> omega
        · have e : d = G.length := by omega
          have hgk : decide ((0 : Int) ≤ (G.length : Int) - 1 - (d : Int)) = false := decide_eq_false (by omega)
          have HOE : Hid (O = G.reverse) := Lib.hid (by rw [hO.out, e, ← List.length_reverse, List.take_length])
          have HRD : Hid (Rd wr (fun b => ablk AR = some b) 9 AR R.length (R.flatMap CV.cells)) := Lib.hid (HrR.out.rd.below hbO)
          have HRO := Lib.hid hrO
          have hsz := hbO.size
          have hRle : R.length ≤ 1000 := by omega
          have hOle : O.length ≤ 1000 := by omega
          have HE := Lib.hid e
          clear hrO hO e
          go_wp2_with (at_builtin; refine wpList_append_row _ rfl (.tmp 58) (.tmp 59) 22 rfl w2.heap.size 26 i0 _ 9 72 Try.underlying22 hi0 hz0 hz1 hz2 rfl (by omega) rfl HRO.out rfl HRD.out (ch_one R) (by simp only [maxLen]; omega) (by omega) hsz ?_; intro A7 c7 w7 h71 h72 h73)
          have hr7 : Below w2.heap.size w2 w7 := hbO.trans ((Fr.of_grown h72 (S := fun b => ablk AO = some b) (fun _ _ e => e)).below hsz (fun k hk e => by have := (HRO.out.lt k e).1; omega))
          have HLL : Hid (O.length + R.length = (G.reverse ++ R).length) := Lib.hid (by rw [HOE.out, List.length_append])
          have HFIN : Hid (RowC w7 w.heap.size A7 c7 (G.reverse ++ R)) := Lib.hid (by
            unfold RowC
            rw [← HLL.out, ← HOE.out, List.flatMap_append]
            exact h71.rebase (fun g hg => by have := (h71.lt g hg).1; omega))
          have hw7 := hb.trans (hr7.mono hb.size)
          clear h71 h72 h73 HRO HRD
          go_wp2_with fail
          go_ret
          exact ⟨A7, c7, by rw [HLL.out, ← HEQ.out]; rfl, by rw [HEQ.out]; exact HFIN.out, hw7⟩

end Go.Proofs.Ytkeledbgmpienaa

/- Swapped ranges, told place by place; what rotation makes of them. Plain, no program. -/
namespace Go.Proofs.Ytkeledbgmpienaa

/-- where the value at place q was, when the ranges of n at a and b were swapped -/
def swapAt (a b n q : Nat) : Nat := if a ≤ q ∧ q < a + n then q - a + b else if b ≤ q ∧ q < b + n then q - b + a else q
theorem swap_shape {α : Type} {P U M V Q LL : List α} {a b n : Nat} (hP : P.length = a) (hU : U.length = n) (hV : V.length = n) (hb : a + n + M.length = b) (hl : LL.length = (P ++ U ++ M ++ V ++ Q).length)
    (h : ∀ q, q < LL.length → LL[q]? = (P ++ U ++ M ++ V ++ Q)[swapAt a b n q]?) : LL = P ++ V ++ M ++ U ++ Q := by
  have hl2 : (P ++ V ++ M ++ U ++ Q).length = LL.length := by rw [hl]; simp only [List.length_append]; omega
  apply List.ext_getElem?
  intro q
  by_cases hq : q < LL.length
  · rw [h q hq]
    simp only [List.length_append] at hl
    unfold swapAt
    simp only [List.getElem?_append, List.length_append]
    repeat' split
    all_goals first
      | rfl
      | (exfalso; omega)
      | (congr 1 <;> omega)
  · rw [List.getElem?_eq_none (by omega), List.getElem?_eq_none (by omega)]
/-- one more place is swapped -/
theorem swap_step {α : Type} {X LL : List α} {a b i : Nat} {x y : α} (hab : a + i < b) (hl : LL.length = X.length) (hb : b + i < X.length) (h : ∀ q, q < X.length → LL[q]? = X[swapAt a b i q]?) (hx : LL[a + i]? = some x) (hy : LL[b + i]? = some y) :
    ∀ q, q < X.length → ((LL.set (a + i) y).set (b + i) x)[q]? = X[swapAt a b (i + 1) q]? := by
  intro q hq
  have ex : X[a + i]? = some x := by
    have := h (a + i) (by omega)
    rw [hx] at this
    unfold swapAt at this
    rw [if_neg (by omega), if_neg (by omega)] at this
    exact this.symm
  have ey : X[b + i]? = some y := by
    have := h (b + i) (by omega)
    rw [hy] at this
    unfold swapAt at this
    rw [if_neg (by omega), if_neg (by omega)] at this
    exact this.symm
  rw [List.getElem?_set]
  by_cases e1 : b + i = q
  · rw [if_pos e1, if_pos (by rw [List.length_set]; omega)]
    unfold swapAt
    rw [if_neg (by omega), if_pos (by omega), show q - b + a = a + i by omega, ex]
  · rw [if_neg e1, List.getElem?_set]
    by_cases e2 : a + i = q
    · rw [if_pos e2, if_pos (by omega)]
      unfold swapAt
      rw [if_pos (by omega), show q - a + b = b + i by omega, ey]
    · rw [if_neg e2, h q hq]
      unfold swapAt
      by_cases h1 : a ≤ q ∧ q < a + i
      · have g1 : a ≤ q ∧ q < a + (i + 1) := by omega
        rw [if_pos h1, if_pos g1]
      · have g1 : ¬ (a ≤ q ∧ q < a + (i + 1)) := by omega
        rw [if_neg h1, if_neg g1]
        by_cases h2 : b ≤ q ∧ q < b + i
        · have g2 : b ≤ q ∧ q < b + (i + 1) := by omega
          rw [if_pos h2, if_pos g2]
        · have g2 : ¬ (b ≤ q ∧ q < b + (i + 1)) := by omega
          rw [if_neg h2, if_neg g2]
section
variable {α : Type} {lt : α → α → Bool}
theorem SortedC.le {L : List α} (h : SortedC lt L) (hi : OrdC lt) {i j : Nat} {x y : α} (hx : L[i]? = some x) (hy : L[j]? = some y) (hij : i ≤ j) : lt y x = false := by
  obtain ⟨h1, e1⟩ := List.getElem?_eq_some_iff.1 hx
  obtain ⟨h2, e2⟩ := List.getElem?_eq_some_iff.1 hy
  by_cases e : i = j
  · subst e
    rw [← e1, ← e2]; exact hi.irr _
  · rw [← e1, ← e2]
    exact List.pairwise_iff_getElem.1 h i j h1 h2 (by omega)
/-- where two sorted rows are cut so that the first parts come ahead of the rest -/
theorem sym_split (h : OrdC lt) {L R : List α} (hL : SortedC lt L) (hR : SortedC lt R) {i j : Nat}
    (F1 : i = 0 ∨ R.length ≤ j ∨ ∃ x y, L[i - 1]? = some x ∧ R[j]? = some y ∧ lt y x = false) (F2 : L.length ≤ i ∨ j = 0 ∨ ∃ x y, L[i]? = some x ∧ R[j - 1]? = some y ∧ lt y x = true) :
    (∀ x ∈ L.take i, ∀ y ∈ R.drop j, lt y x = false) ∧ (∀ y ∈ R.take j, ∀ x ∈ L.drop i, lt y x = true) := by
  refine ⟨fun x hx y hy => ?_, fun y hy x hx => ?_⟩
  · obtain ⟨i', hi', ex⟩ := List.getElem_of_mem hx
    obtain ⟨j', hj', ey⟩ := List.getElem_of_mem hy
    rw [List.length_take] at hi'
    rw [List.length_drop] at hj'
    rw [List.getElem_take] at ex
    rw [List.getElem_drop] at ey
    rcases F1 with e | e | ⟨x0, y0, e1, e2, e3⟩
    · omega
    · omega
    · have h1 : lt x0 x = false := hL.le h (List.getElem?_eq_some_iff.2 ⟨by omega, ex⟩) e1 (by omega)
      have h2 : lt y y0 = false := hR.le h e2 (List.getElem?_eq_some_iff.2 ⟨by omega, ey⟩) (by omega)
      cases hh : lt y x
      · rfl
      · rcases h.neg _ y0 _ hh with g | g
        · rw [h2] at g; cases g
        · rcases h.neg _ x0 _ g with g | g
          · rw [e3] at g; cases g
          · rw [h1] at g; cases g
  · obtain ⟨i', hi', ex⟩ := List.getElem_of_mem hx
    obtain ⟨j', hj', ey⟩ := List.getElem_of_mem hy
    rw [List.length_drop] at hi'
    rw [List.length_take] at hj'
    rw [List.getElem_drop] at ex
    rw [List.getElem_take] at ey
    rcases F2 with e | e | ⟨x0, y0, e1, e2, e3⟩
    · omega
    · omega
    · have h1 : lt x x0 = false := hL.le h e1 (List.getElem?_eq_some_iff.2 ⟨by omega, ex⟩) (by omega)
      have h2 : lt y0 y = false := hR.le h (List.getElem?_eq_some_iff.2 ⟨by omega, ey⟩) e2 (by omega)
      rcases h.neg _ y _ e3 with g | g
      · rw [h2] at g; cases g
      · rcases h.neg _ x _ g with g | g
        · exact g
        · rw [h1] at g; cases g
/-- the merge of two sorted rows, parted -/
theorem sym_parts (h : OrdC lt) {L R : List α} (hL : SortedC lt L) (hR : SortedC lt R) {i j : Nat}
    (F1 : i = 0 ∨ R.length ≤ j ∨ ∃ x y, L[i - 1]? = some x ∧ R[j]? = some y ∧ lt y x = false) (F2 : L.length ≤ i ∨ j = 0 ∨ ∃ x y, L[i]? = some x ∧ R[j - 1]? = some y ∧ lt y x = true) :
    sortC lt (L ++ R) = sortC lt (L.take i ++ R.take j) ++ sortC lt (L.drop i ++ R.drop j) := by
  obtain ⟨h1, h2⟩ := sym_split h hL hR F1 F2
  have := stable_merge h (L1 := L.take i) (L2 := L.drop i) (R1 := R.take j) (R2 := R.drop j) (by rwa [List.take_append_drop]) (by rwa [List.take_append_drop]) h1 h2 (sortC_stable h _) (sortC_stable h _)
  rw [List.take_append_drop, List.take_append_drop] at this
  exact (this.eq h).symm
theorem sortC_sorted_eq (h : OrdC lt) {X : List α} (hs : SortedC lt X) : sortC lt X = X := ((StableOf.self hs).eq h).symm
end
end Go.Proofs.Ytkeledbgmpienaa
