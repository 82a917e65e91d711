/- script.Check: whether an act is right. -/
import Derived.Test.YtpbgcbpofhbgbaaScriptRow
namespace Go.Proofs.Ytpbgcbpofhbgbaa
open Go.RowKit

def inB (n lo hi : Int) : Bool := decide (lo ≤ n) && decide (n ≤ hi)
theorem inB_iff (n lo hi : Int) : inB n lo hi = true ↔ lo ≤ n ∧ n ≤ hi := by simp [inB]
theorem within_any (n lo hi : Int) (w : World) : Calls Try.prog 54 #[.int .i64 n, .int .i64 lo, .int .i64 hi] w fun e w' => e = .returned (.bool (inB n lo hi)) ∧ w = w' := by
  obtain ⟨M, hM⟩ : ∃ M, M = inB n lo hi := ⟨_, rfl⟩
  rw [← hM]
  have HM := Lib.hid hM
  clear hM
  cases h1 : decide (lo ≤ n)
  · have h2 : decide (n ≥ lo) = false := h1
    obtain rfl : M = false := by rw [HM.out]; unfold inB; rw [h1]; rfl
    go_enter Try.func54, Try.ntmps54
    go_wp2_with fail
    go_ret
    exact ⟨rfl, rfl⟩
  · have h2 : decide (n ≥ lo) = true := h1
    have HM2 : Hid (M = decide (n ≤ hi)) := by show _ = _; rw [HM.out]; unfold inB; rw [h1]; rfl
    go_enter Try.func54, Try.ntmps54
    go_wp2_with fail
    go_ret
    exact ⟨ret_b HM2.out.symm, rfl⟩
/-- what crashes keep; a choice; an edit -/
def goodK (x : KV) : Bool := inB x.f 0 1048576 && inB x.b 0 1048576
def goodC (x : HW) : Bool := decide (x.p.size ≤ 96) && inB x.w 0 2
def editB (a : AS) : Bool := inB a.ek 0 5 && (decide (a.p.size ≤ 96) && (decide (a.t.size ≤ 96) && decide (a.x.length ≤ 4096)))
def rightA (a : AS) : Bool := inB a.k 1 12 && (inB a.s 0 2 && (inB a.n (-1) 1048576 && (inB a.b (-1) 1048576 && (decide (a.kl.length ≤ 8) && (decide (a.cl.length ≤ 8) && (editB a && (a.kl.all goodK && a.cl.all goodC)))))))

set_option maxRecDepth 100000 in
theorem badK_any (x : KV) (w : World) : Calls Try.prog 53 #[.agg #[.int .i64 x.f, .int .i64 x.b]] w fun e w' => e = .returned (.bool (!goodK x)) ∧ Below w.heap.size w w' := by
  have H1 := Lib.hid (fun w => within_any x.f 0 1048576 w)
  have H2 := Lib.hid (fun w => within_any x.b 0 1048576 w)
  have hg : goodK x = (inB x.f 0 1048576 && inB x.b 0 1048576) := rfl
  rw [hg]
  clear hg
  generalize inB x.f 0 1048576 = A at *
  generalize inB x.b 0 1048576 = B at *
  cases A
  all_goals
    go_enter Try.func53, Try.ntmps53
    go_wp2_with (first | (go_at_call 54; first | (with_reducible refine (H1.out _).mono ?_; rintro e w2 ⟨rfl, rfl⟩) | (with_reducible refine (H2.out _).mono ?_; rintro e w2 ⟨rfl, rfl⟩)))
    go_ret
    exact ⟨by simp, (by repeat (first | exact Below.refl _ _ | refine Below.alloc ?_ (by simp) _ | refine Below.setCell ?_ (by simp) _ | refine Below.drew ?_))⟩
set_option maxRecDepth 100000 in
theorem badC_any (x : HW) (w : World) : Calls Try.prog 55 #[.agg #[.string x.p, .int .i64 x.w]] w fun e w' => e = .returned (.bool (!goodC x)) ∧ Below w.heap.size w w' := by
  have H2 := Lib.hid (fun w => within_any x.w 0 2 w)
  have hg : goodC x = (decide (x.p.size ≤ 96) && inB x.w 0 2) := rfl
  rw [hg]
  clear hg
  generalize inB x.w 0 2 = B at *
  cases hA : decide (x.p.size ≤ 96)
  · have h1 : decide ((x.p.size : Int) > 96) = true := by simp at hA ⊢; omega
    go_enter Try.func55, Try.ntmps55
    go_wp2_with fail
    go_ret
    exact ⟨by simp, (by repeat (first | exact Below.refl _ _ | refine Below.alloc ?_ (by simp) _ | refine Below.setCell ?_ (by simp) _ | refine Below.drew ?_))⟩
  · have h1 : decide ((x.p.size : Int) > 96) = false := by simp at hA ⊢; omega
    go_enter Try.func55, Try.ntmps55
    go_wp2_with (first | (go_at_call 54; refine (H2.out _).mono ?_; rintro e w2 ⟨rfl, rfl⟩))
    go_ret
    exact ⟨by simp, (by repeat (first | exact Below.refl _ _ | refine Below.alloc ?_ (by simp) _ | refine Below.setCell ?_ (by simp) _ | refine Below.drew ?_))⟩
set_option maxRecDepth 100000 in
theorem edit_any (a : AS) (A : Option Addr) (c : Nat) (w : World) : Calls Try.prog 56 #[.agg #[.int .i64 a.ek, .string a.p, .string a.t, .slice A a.x.length c]] w fun e w' => e = .returned (.bool (editB a)) ∧ Below w.heap.size w w' := by
  have H1 := Lib.hid (fun w => within_any a.ek 0 5 w)
  obtain ⟨M, hM⟩ : ∃ M, M = editB a := ⟨_, rfl⟩
  rw [← hM]
  have HM := Lib.hid hM
  clear hM
  unfold editB at HM
  generalize inB a.ek 0 5 = K at *
  cases K
  · obtain rfl : M = false := HM.out.trans rfl
    go_enter Try.func56, Try.ntmps56
    go_wp2_with (first | (go_at_call 54; refine (H1.out _).mono ?_; rintro e w2 ⟨rfl, rfl⟩))
    go_ret
    exact ⟨rfl, (by repeat (first | exact Below.refl _ _ | refine Below.alloc ?_ (by simp) _ | refine Below.setCell ?_ (by simp) _ | refine Below.drew ?_))⟩
  · skip
    cases cp : decide (a.p.size ≤ 96)
    · have q : decide ((a.p.size : Int) ≤ 96) = false := by simp at cp ⊢; omega
      obtain rfl : M = false := by rw [HM.out, cp]; rfl
      go_enter Try.func56, Try.ntmps56
      go_wp2_with (first | (go_at_call 54; refine (H1.out _).mono ?_; rintro e w2 ⟨rfl, rfl⟩))
      go_ret
      exact ⟨rfl, (by repeat (first | exact Below.refl _ _ | refine Below.alloc ?_ (by simp) _ | refine Below.setCell ?_ (by simp) _ | refine Below.drew ?_))⟩
    · have qp : decide ((a.p.size : Int) ≤ 96) = true := by simp at cp ⊢; omega
      cases ct : decide (a.t.size ≤ 96)
      · have q : decide ((a.t.size : Int) ≤ 96) = false := by simp at ct ⊢; omega
        obtain rfl : M = false := by rw [HM.out, cp, ct]; rfl
        go_enter Try.func56, Try.ntmps56
        go_wp2_with (first | (go_at_call 54; refine (H1.out _).mono ?_; rintro e w2 ⟨rfl, rfl⟩))
        go_ret
        exact ⟨rfl, (by repeat (first | exact Below.refl _ _ | refine Below.alloc ?_ (by simp) _ | refine Below.setCell ?_ (by simp) _ | refine Below.drew ?_))⟩
      · have qt : decide ((a.t.size : Int) ≤ 96) = true := by simp at ct ⊢; omega
        cases cx : decide (a.x.length ≤ 4096)
        · have q : decide ((a.x.length : Int) ≤ 4096) = false := by simp at cx ⊢; omega
          obtain rfl : M = false := by rw [HM.out, cp, ct, cx]; rfl
          go_enter Try.func56, Try.ntmps56
          go_wp2_with (first | (go_at_call 54; refine (H1.out _).mono ?_; rintro e w2 ⟨rfl, rfl⟩))
          go_ret
          exact ⟨rfl, (by repeat (first | exact Below.refl _ _ | refine Below.alloc ?_ (by simp) _ | refine Below.setCell ?_ (by simp) _ | refine Below.drew ?_))⟩
        · have qx : decide ((a.x.length : Int) ≤ 4096) = true := by simp at cx ⊢; omega
          obtain rfl : M = true := by rw [HM.out, cp, ct, cx]; rfl
          go_enter Try.func56, Try.ntmps56
          go_wp2_with (first | (go_at_call 54; refine (H1.out _).mono ?_; rintro e w2 ⟨rfl, rfl⟩))
          go_ret
          exact ⟨rfl, (by repeat (first | exact Below.refl _ _ | refine Below.alloc ?_ (by simp) _ | refine Below.setCell ?_ (by simp) _ | refine Below.drew ?_))⟩

set_option maxRecDepth 100000 in
set_option maxHeartbeats 400000 in
theorem indexKV_any (A : Option Addr) (c : Nat) (l : List KV) (Z : Nat → Prop) (w : World) (h : Rd w Z 2 A l.length (l.flatMap KV.cells)) (hn : l.length ≤ 140737488355328) :
    Calls Try.prog 85 #[.slice A l.length c, .func (.func 53) #[] #[]] w fun e w' => ∃ i : Int, e = .returned (.int .i64 i) ∧ decide (i ≥ 0) = !l.all goodK ∧ Below w.heap.size w w' := by
  obtain ⟨M, hM⟩ : ∃ M, M = l.all goodK := ⟨_, rfl⟩
  rw [← hM]
  have HM := Lib.hid hM
  clear hM
  go_enter Try.func85, Try.ntmps85
  go_wp2_with fail
  go_loopw [8] (fun iv wr => ∃ i : Nat, i ≤ l.length ∧ iv = .int .i64 (i : Int) ∧ Hid ((l.take i).all goodK = true) ∧ Below w.heap.size w wr) (fun iv _ => l.length - (intOf iv).toNat)
  case atStart => exact ⟨0, Nat.zero_le _, rfl, rfl, Below.refl _ _⟩
  case round =>
    obtain ⟨i, hi, rfl, hs, hb⟩ := hrel
    by_cases hlt : i < l.length
    · obtain ⟨b, off, rfl, _, _, p0, p1⟩ := kv_at (h.below hb) hlt
      have HT : Hid ((l.take (i + 1)).all goodK = goodK l[i]) := by
        show _ = _
        rw [List.take_succ_eq_append_getElem hlt, List.all_append, hs.out]
        simp
      have HF : Hid (goodK l[i] = false → M = false) := fun e => by
        rw [HM.out]
        exact List.all_eq_false.2 ⟨l[i], List.getElem_mem hlt, by rw [e]; simp⟩
      generalize l[i] = x at *
      have HB := Lib.hid (fun W => badK_any x W)
      cases hx : goodK x
      · obtain rfl := HF.out hx
        rw [hx] at HB
        clear HT HF HM hs
        go_wp2_with fail
        refine (HB.out _).mono ?_
        rintro e w2 ⟨rfl, hb2⟩
        go_wp2_with fail
        go_ret
        exact ⟨(i : Int), rfl, by simp, hb.trans (hb2.mono hb.size)⟩
      · rw [hx] at HB HT
        clear HF hs
        go_wp2_with fail
        refine (HB.out _).mono ?_
        rintro e w2 ⟨rfl, hb2⟩
        go_wp2_with fail
        go_roundw
        case rel => exact ⟨i + 1, hlt, by go_num, HT, hb.trans (hb2.mono hb.size)⟩
        case measure => simp [intOf]; omega
    · have e : i = l.length := by omega
      subst e
      obtain rfl : M = true := by rw [HM.out]; have := hs.out; rwa [List.take_length] at this
      go_wp2_with fail
      go_ret
      exact ⟨-1, rfl, by simp, hb⟩
set_option maxRecDepth 100000 in
theorem containsKV_any (A : Option Addr) (c : Nat) (l : List KV) (Z : Nat → Prop) (w : World) (h : Rd w Z 2 A l.length (l.flatMap KV.cells)) (hn : l.length ≤ 140737488355328) :
    Calls Try.prog 57 #[.slice A l.length c, .func (.func 53) #[] #[]] w fun e w' => e = .returned (.bool (!l.all goodK)) ∧ Below w.heap.size w w' := by
  go_enter Try.func57, Try.ntmps57
  go_wp2_with fail
  refine (indexKV_any A c l Z w h hn).mono ?_
  rintro e w2 ⟨i, rfl, hi, hb⟩
  have HI := Lib.hid hi
  clear hi
  go_wp2_with fail
  go_ret
  exact ⟨ret_b HI.out, hb⟩

set_option maxRecDepth 100000 in
set_option maxHeartbeats 400000 in
theorem indexHW_any (A : Option Addr) (c : Nat) (l : List HW) (Z : Nat → Prop) (w : World) (h : Rd w Z 2 A l.length (l.flatMap HW.cells)) (hn : l.length ≤ 140737488355328) :
    Calls Try.prog 86 #[.slice A l.length c, .func (.func 55) #[] #[]] w fun e w' => ∃ i : Int, e = .returned (.int .i64 i) ∧ decide (i ≥ 0) = !l.all goodC ∧ Below w.heap.size w w' := by
  obtain ⟨M, hM⟩ : ∃ M, M = l.all goodC := ⟨_, rfl⟩
  rw [← hM]
  have HM := Lib.hid hM
  clear hM
  go_enter Try.func86, Try.ntmps86
  go_wp2_with fail
  go_loopw [8] (fun iv wr => ∃ i : Nat, i ≤ l.length ∧ iv = .int .i64 (i : Int) ∧ Hid ((l.take i).all goodC = true) ∧ Below w.heap.size w wr) (fun iv _ => l.length - (intOf iv).toNat)
  case atStart => exact ⟨0, Nat.zero_le _, rfl, rfl, Below.refl _ _⟩
  case round =>
    obtain ⟨i, hi, rfl, hs, hb⟩ := hrel
    by_cases hlt : i < l.length
    · obtain ⟨b, off, rfl, _, _, p0, p1⟩ := hw_at (h.below hb) hlt
      have HT : Hid ((l.take (i + 1)).all goodC = goodC l[i]) := by
        show _ = _
        rw [List.take_succ_eq_append_getElem hlt, List.all_append, hs.out]
        simp
      have HF : Hid (goodC l[i] = false → M = false) := fun e => by
        rw [HM.out]
        exact List.all_eq_false.2 ⟨l[i], List.getElem_mem hlt, by rw [e]; simp⟩
      generalize l[i] = x at *
      have HB := Lib.hid (fun W => badC_any x W)
      cases hx : goodC x
      · obtain rfl := HF.out hx
        rw [hx] at HB
        clear HT HF HM hs
        go_wp2_with fail
        refine (HB.out _).mono ?_
        rintro e w2 ⟨rfl, hb2⟩
        go_wp2_with fail
        go_ret
        exact ⟨(i : Int), rfl, by simp, hb.trans (hb2.mono hb.size)⟩
      · rw [hx] at HB HT
        clear HF hs
        go_wp2_with fail
        refine (HB.out _).mono ?_
        rintro e w2 ⟨rfl, hb2⟩
        go_wp2_with fail
        go_roundw
        case rel => exact ⟨i + 1, hlt, by go_num, HT, hb.trans (hb2.mono hb.size)⟩
        case measure => simp [intOf]; omega
    · have e : i = l.length := by omega
      subst e
      obtain rfl : M = true := by rw [HM.out]; have := hs.out; rwa [List.take_length] at this
      go_wp2_with fail
      go_ret
      exact ⟨-1, rfl, by simp, hb⟩
set_option maxRecDepth 100000 in
theorem containsHW_any (A : Option Addr) (c : Nat) (l : List HW) (Z : Nat → Prop) (w : World) (h : Rd w Z 2 A l.length (l.flatMap HW.cells)) (hn : l.length ≤ 140737488355328) :
    Calls Try.prog 58 #[.slice A l.length c, .func (.func 55) #[] #[]] w fun e w' => e = .returned (.bool (!l.all goodC)) ∧ Below w.heap.size w w' := by
  go_enter Try.func58, Try.ntmps58
  go_wp2_with fail
  refine (indexHW_any A c l Z w h hn).mono ?_
  rintro e w2 ⟨i, rfl, hi, hb⟩
  have HI := Lib.hid hi
  clear hi
  go_wp2_with fail
  go_ret
  exact ⟨ret_b HI.out, hb⟩
end Go.Proofs.Ytpbgcbpofhbgbaa
