/- MergeTells, the walks. -/
import Derived.Test.YtofllgmieciakaaMergeOne
import Derived.Deep.RegionHeld3
import Derived.Outline
namespace Go.Proofs.Ytofllgmieciakaa
open Go.RowKit Go.WideShapes Go.ChangeShapes Go.ChangeAt

/-- a text out of bytes -/
abbrev str (l : List UInt8) : ByteArray := ⟨l.toArray⟩
def vname (n : Int) : ByteArray :=
  if n = 0 then str [101, 113, 117, 97, 108] else if n = 1 then str [116, 111, 32, 115, 101, 114, 118, 101, 114] else if n = 2 then str [116, 111, 32, 99, 108, 105, 101, 110, 116]
  else if n = 3 then str [115, 97, 109, 101] else if n = 4 then str [108, 111, 111, 107] else if n = 5 then str [99, 111, 110, 102, 108, 105, 99, 116] else str []

set_option maxHeartbeats 400000 in
theorem name_any (n : Int) (w : World) :
    Calls Try.prog 19 #[.int .i64 n] w fun e w' => e = .returned (.string (vname n)) ∧ Below w.heap.size w w' := by
  have h : n < 0 ∨ 6 ≤ n ∨ n = 0 ∨ n = 1 ∨ n = 2 ∨ n = 3 ∨ n = 4 ∨ n = 5 := by omega
  rcases h with h | h | rfl | rfl | rfl | rfl | rfl | rfl
  · have e1 := Lib.hid (show vname n = str [] by unfold vname; rw [if_neg (by omega), if_neg (by omega), if_neg (by omega), if_neg (by omega), if_neg (by omega), if_neg (by omega)])
    go_enter Try.func19, Try.ntmps19
    go_wp2
    go_ret
    exact ⟨by rw [e1.out]; rfl, (by repeat (first | exact Below.refl _ _ | refine Below.alloc ?_ (by simp) _ | refine Below.setCell ?_ (by simp) _ | refine Below.drew ?_))⟩
  · have e1 := Lib.hid (show vname n = str [] by unfold vname; rw [if_neg (by omega), if_neg (by omega), if_neg (by omega), if_neg (by omega), if_neg (by omega), if_neg (by omega)])
    go_enter Try.func19, Try.ntmps19
    go_wp2
    go_ret
    exact ⟨by rw [e1.out]; rfl, (by repeat (first | exact Below.refl _ _ | refine Below.alloc ?_ (by simp) _ | refine Below.setCell ?_ (by simp) _ | refine Below.drew ?_))⟩
  all_goals
    go_enter Try.func19, Try.ntmps19
    go_wp2
    go_ret
    exact ⟨rfl, (by repeat (first | exact Below.refl _ _ | refine Below.alloc ?_ (by simp) _ | refine Below.setCell ?_ (by simp) _ | refine Below.drew ?_))⟩

set_option maxHeartbeats 400000 in
theorem lives25_any (w : World) : Calls Try.prog 14 #[] w fun e w' => e = .returned (.bool true) ∧ Below w.heap.size w w' := by
  go_enter Try.func14, Try.ntmps14
  go_wp2_with fail
  refine (verdict_any _ _ _ _ _ _ _ _ _ _).mono ?_
  rintro e w1 ⟨rfl, hb⟩
  obtain ⟨hc, hf⟩ := bcell hb
  go_wp2_with fail
  refine (verdict_any _ _ _ _ _ _ _ _ _ _).mono ?_
  rintro e w2 ⟨rfl, hb2⟩
  go_wp2_with fail
  refine (name_any _ _).mono ?_
  rintro e w3 ⟨rfl, hb3⟩
  go_wp2_with fail
  go_ret
  exact ⟨ret_b (by kernel_rfl), bthen (bthen (bthen (by repeat (first | exact Below.refl _ _ | refine Below.alloc ?_ (by simp) _ | refine Below.setCell ?_ (by simp) _ | refine Below.drew ?_)) hb) hb2) hb3⟩

set_option maxHeartbeats 1000000 in
theorem mergeTells_far (p : ByteArray) (b : Int) (m t : Bool) (k o s l v n : Int) (w : World) (hp : 200 < p.size) :
    Calls Try.prog 4 #[chV p b m t k o s l v, .int .i64 n] w fun e w' => e = .returned (.bool true) ∧ Below w.heap.size w w' := by
  go_enter Try.func4, Try.ntmps4
  go_wp2_with fail
  refine (lives25_any _).mono ?_
  rintro e w1 ⟨rfl, hb⟩
  go_wp2_with fail
  go_ret
  exact ⟨rfl, bthen (by repeat (first | exact Below.refl _ _ | refine Below.alloc ?_ (by simp) _ | refine Below.setCell ?_ (by simp) _ | refine Below.drew ?_)) hb⟩

set_option maxHeartbeats 1000000 in
theorem mergeTells_near (p : ByteArray) (b : Int) (m t : Bool) (k o s l v n : Int) (w : World) (hp : p.size ≤ 200) :
    Calls Try.prog 4 #[chV p b m t k o s l v, .int .i64 n] w fun e w' => e = .returned (.bool true) ∧ Below w.heap.size w w' := by
  have hn : n < 0 ∨ (0 ≤ n ∧ 5 < n) ∨ n = 0 ∨ n = 1 ∨ n = 2 ∨ n = 3 ∨ n = 4 ∨ n = 5 := by omega
  have e1 : (verd m t k o s l == verd m t k o s l) = true := by simp
  have e2 : (resK b k o v == resK b k o v) = true := by simp
  have e3 : (resS v == resS v) = true := by simp
  rcases hn with hn | hn | rfl | rfl | rfl | rfl | rfl | rfl
  · have e4 : ((vname n).toList == []) = true := by unfold vname; rw [if_neg (by omega), if_neg (by omega), if_neg (by omega), if_neg (by omega), if_neg (by omega), if_neg (by omega)]; kernel_rfl
    go_enter Try.func4, Try.ntmps4
    go_wp2_with fail
    refine (result_any _ _ _ _ _ _ _ _ _ _).mono ?_
    rintro e w1 ⟨rfl, hb⟩
    obtain ⟨hc, hf⟩ := bcell hb
    go_wp2_with fail
    refine (resultR_any _ _ _ _ _ _ _ _ _ _).mono ?_
    rintro e w2 ⟨rfl, hb2⟩
    obtain ⟨hc2, hf2⟩ := bcell hb2
    go_wp2_with fail
    have hb12 : Below w.heap.size w w2 := bthen (bthen (by repeat (first | exact Below.refl _ _ | refine Below.alloc ?_ (by simp) _ | refine Below.setCell ?_ (by simp) _ | refine Below.drew ?_)) hb) hb2
    have hp1 : w.heap.size + 1 < w1.heap.size := by have := hb.size; simp at this; omega
    have hx : w.heap.size < w2.heap.size := by have := hb2.size; omega
    have c0 : w2.cell? ⟨w.heap.size, 0, none⟩ = some (.string p) := by rw [hc2 _ _ (by omega), hc _ _ (by simp; omega)]; simp [World.cell?_alloc_some]
    have c1 : w2.cell? ⟨w.heap.size, 1, none⟩ = some (.int .i64 b) := by rw [hc2 _ _ (by omega), hc _ _ (by simp; omega)]; simp [World.cell?_alloc_some]
    have c2 : w2.cell? ⟨w.heap.size, 2, none⟩ = some (.bool m) := by rw [hc2 _ _ (by omega), hc _ _ (by simp; omega)]; simp [World.cell?_alloc_some]
    have c3 : w2.cell? ⟨w.heap.size, 3, none⟩ = some (.bool t) := by rw [hc2 _ _ (by omega), hc _ _ (by simp; omega)]; simp [World.cell?_alloc_some]
    have c4 : w2.cell? ⟨w.heap.size, 4, none⟩ = some (.int .i64 k) := by rw [hc2 _ _ (by omega), hc _ _ (by simp; omega)]; simp [World.cell?_alloc_some]
    have c5 : w2.cell? ⟨w.heap.size, 5, none⟩ = some (.int .i64 o) := by rw [hc2 _ _ (by omega), hc _ _ (by simp; omega)]; simp [World.cell?_alloc_some]
    have c6 : w2.cell? ⟨w.heap.size, 6, none⟩ = some (.int .i64 s) := by rw [hc2 _ _ (by omega), hc _ _ (by simp; omega)]; simp [World.cell?_alloc_some]
    have c7 : w2.cell? ⟨w.heap.size, 7, none⟩ = some (.int .i64 l) := by rw [hc2 _ _ (by omega), hc _ _ (by simp; omega)]; simp [World.cell?_alloc_some]
    have c8 : w2.cell? ⟨w.heap.size, 8, none⟩ = some (.int .i64 v) := by rw [hc2 _ _ (by omega), hc _ _ (by simp; omega)]; simp [World.cell?_alloc_some]
    clear hb hb2 hc hf hc2 hf2
    go_region_held3 (fun w' => Below w2.heap.size w2 w' ∧ w'.cell? ⟨w.heap.size, 0, none⟩ = some (.string p) ∧ w'.cell? ⟨w.heap.size, 1, none⟩ = some (.int .i64 b) ∧ w'.cell? ⟨w.heap.size, 2, none⟩ = some (.bool m) ∧ w'.cell? ⟨w.heap.size, 3, none⟩ = some (.bool t) ∧ w'.cell? ⟨w.heap.size, 4, none⟩ = some (.int .i64 k) ∧ w'.cell? ⟨w.heap.size, 5, none⟩ = some (.int .i64 o) ∧ w'.cell? ⟨w.heap.size, 6, none⟩ = some (.int .i64 s) ∧ w'.cell? ⟨w.heap.size, 7, none⟩ = some (.int .i64 l) ∧ w'.cell? ⟨w.heap.size, 8, none⟩ = some (.int .i64 v))
      (first | exact ⟨(Below.refl _ _).drew, c0, c1, c2, c3, c4, c5, c6, c7, c8⟩ | (have hq := bthen ‹Below w2.heap.size w2 _ ∧ _›.1 hb3; exact ⟨hq, cellAt hq hx c0, cellAt hq hx c1, cellAt hq hx c2, cellAt hq hx c3, cellAt hq hx c4, cellAt hq hx c5, cellAt hq hx c6, cellAt hq hx c7, cellAt hq hx c8⟩))
      (first
        | (go_at_call 17; refine (verdict_any _ _ _ _ _ _ _ _ _ _).mono ?_; rintro e w3 ⟨rfl, hb3⟩)
        | (go_at_call 18; refine (verdictR_any _ _ _ _ _ _ _ _ _ _).mono ?_; rintro e w3 ⟨rfl, hb3⟩)
        | (go_at_call 19; refine (name_any _ _).mono ?_; rintro e w3 ⟨rfl, hb3⟩)
        | (go_at_call 14; refine (lives25_any _).mono ?_; rintro e w3 ⟨rfl, hb3⟩))
    go_wp2_with fail
    go_ret
    exact ⟨rfl, bthen hb12 ‹Below w2.heap.size w2 _ ∧ _›.1⟩
  · have e4 : ((vname n).toList == []) = true := by unfold vname; rw [if_neg (by omega), if_neg (by omega), if_neg (by omega), if_neg (by omega), if_neg (by omega), if_neg (by omega)]; kernel_rfl
    go_enter Try.func4, Try.ntmps4
    go_wp2_with fail
    refine (result_any _ _ _ _ _ _ _ _ _ _).mono ?_
    rintro e w1 ⟨rfl, hb⟩
    obtain ⟨hc, hf⟩ := bcell hb
    go_wp2_with fail
    refine (resultR_any _ _ _ _ _ _ _ _ _ _).mono ?_
    rintro e w2 ⟨rfl, hb2⟩
    obtain ⟨hc2, hf2⟩ := bcell hb2
    go_wp2_with fail
    have hb12 : Below w.heap.size w w2 := bthen (bthen (by repeat (first | exact Below.refl _ _ | refine Below.alloc ?_ (by simp) _ | refine Below.setCell ?_ (by simp) _ | refine Below.drew ?_)) hb) hb2
    have hp1 : w.heap.size + 1 < w1.heap.size := by have := hb.size; simp at this; omega
    have hx : w.heap.size < w2.heap.size := by have := hb2.size; omega
    have c0 : w2.cell? ⟨w.heap.size, 0, none⟩ = some (.string p) := by rw [hc2 _ _ (by omega), hc _ _ (by simp; omega)]; simp [World.cell?_alloc_some]
    have c1 : w2.cell? ⟨w.heap.size, 1, none⟩ = some (.int .i64 b) := by rw [hc2 _ _ (by omega), hc _ _ (by simp; omega)]; simp [World.cell?_alloc_some]
    have c2 : w2.cell? ⟨w.heap.size, 2, none⟩ = some (.bool m) := by rw [hc2 _ _ (by omega), hc _ _ (by simp; omega)]; simp [World.cell?_alloc_some]
    have c3 : w2.cell? ⟨w.heap.size, 3, none⟩ = some (.bool t) := by rw [hc2 _ _ (by omega), hc _ _ (by simp; omega)]; simp [World.cell?_alloc_some]
    have c4 : w2.cell? ⟨w.heap.size, 4, none⟩ = some (.int .i64 k) := by rw [hc2 _ _ (by omega), hc _ _ (by simp; omega)]; simp [World.cell?_alloc_some]
    have c5 : w2.cell? ⟨w.heap.size, 5, none⟩ = some (.int .i64 o) := by rw [hc2 _ _ (by omega), hc _ _ (by simp; omega)]; simp [World.cell?_alloc_some]
    have c6 : w2.cell? ⟨w.heap.size, 6, none⟩ = some (.int .i64 s) := by rw [hc2 _ _ (by omega), hc _ _ (by simp; omega)]; simp [World.cell?_alloc_some]
    have c7 : w2.cell? ⟨w.heap.size, 7, none⟩ = some (.int .i64 l) := by rw [hc2 _ _ (by omega), hc _ _ (by simp; omega)]; simp [World.cell?_alloc_some]
    have c8 : w2.cell? ⟨w.heap.size, 8, none⟩ = some (.int .i64 v) := by rw [hc2 _ _ (by omega), hc _ _ (by simp; omega)]; simp [World.cell?_alloc_some]
    clear hb hb2 hc hf hc2 hf2
    go_region_held3 (fun w' => Below w2.heap.size w2 w' ∧ w'.cell? ⟨w.heap.size, 0, none⟩ = some (.string p) ∧ w'.cell? ⟨w.heap.size, 1, none⟩ = some (.int .i64 b) ∧ w'.cell? ⟨w.heap.size, 2, none⟩ = some (.bool m) ∧ w'.cell? ⟨w.heap.size, 3, none⟩ = some (.bool t) ∧ w'.cell? ⟨w.heap.size, 4, none⟩ = some (.int .i64 k) ∧ w'.cell? ⟨w.heap.size, 5, none⟩ = some (.int .i64 o) ∧ w'.cell? ⟨w.heap.size, 6, none⟩ = some (.int .i64 s) ∧ w'.cell? ⟨w.heap.size, 7, none⟩ = some (.int .i64 l) ∧ w'.cell? ⟨w.heap.size, 8, none⟩ = some (.int .i64 v))
      (first | exact ⟨(Below.refl _ _).drew, c0, c1, c2, c3, c4, c5, c6, c7, c8⟩ | (have hq := bthen ‹Below w2.heap.size w2 _ ∧ _›.1 hb3; exact ⟨hq, cellAt hq hx c0, cellAt hq hx c1, cellAt hq hx c2, cellAt hq hx c3, cellAt hq hx c4, cellAt hq hx c5, cellAt hq hx c6, cellAt hq hx c7, cellAt hq hx c8⟩))
      (first
        | (go_at_call 17; refine (verdict_any _ _ _ _ _ _ _ _ _ _).mono ?_; rintro e w3 ⟨rfl, hb3⟩)
        | (go_at_call 18; refine (verdictR_any _ _ _ _ _ _ _ _ _ _).mono ?_; rintro e w3 ⟨rfl, hb3⟩)
        | (go_at_call 19; refine (name_any _ _).mono ?_; rintro e w3 ⟨rfl, hb3⟩)
        | (go_at_call 14; refine (lives25_any _).mono ?_; rintro e w3 ⟨rfl, hb3⟩))
    go_wp2_with fail
    go_ret
    exact ⟨rfl, bthen hb12 ‹Below w2.heap.size w2 _ ∧ _›.1⟩
  · have e4 : ((vname 0).toList == [101, 113, 117, 97, 108]) = true := by kernel_rfl
    go_enter Try.func4, Try.ntmps4
    go_wp2_with fail
    refine (result_any _ _ _ _ _ _ _ _ _ _).mono ?_
    rintro e w1 ⟨rfl, hb⟩
    obtain ⟨hc, hf⟩ := bcell hb
    go_wp2_with fail
    refine (resultR_any _ _ _ _ _ _ _ _ _ _).mono ?_
    rintro e w2 ⟨rfl, hb2⟩
    obtain ⟨hc2, hf2⟩ := bcell hb2
    go_wp2_with fail
    have hb12 : Below w.heap.size w w2 := bthen (bthen (by repeat (first | exact Below.refl _ _ | refine Below.alloc ?_ (by simp) _ | refine Below.setCell ?_ (by simp) _ | refine Below.drew ?_)) hb) hb2
    have hp1 : w.heap.size + 1 < w1.heap.size := by have := hb.size; simp at this; omega
    have hx : w.heap.size < w2.heap.size := by have := hb2.size; omega
    have c0 : w2.cell? ⟨w.heap.size, 0, none⟩ = some (.string p) := by rw [hc2 _ _ (by omega), hc _ _ (by simp; omega)]; simp [World.cell?_alloc_some]
    have c1 : w2.cell? ⟨w.heap.size, 1, none⟩ = some (.int .i64 b) := by rw [hc2 _ _ (by omega), hc _ _ (by simp; omega)]; simp [World.cell?_alloc_some]
    have c2 : w2.cell? ⟨w.heap.size, 2, none⟩ = some (.bool m) := by rw [hc2 _ _ (by omega), hc _ _ (by simp; omega)]; simp [World.cell?_alloc_some]
    have c3 : w2.cell? ⟨w.heap.size, 3, none⟩ = some (.bool t) := by rw [hc2 _ _ (by omega), hc _ _ (by simp; omega)]; simp [World.cell?_alloc_some]
    have c4 : w2.cell? ⟨w.heap.size, 4, none⟩ = some (.int .i64 k) := by rw [hc2 _ _ (by omega), hc _ _ (by simp; omega)]; simp [World.cell?_alloc_some]
    have c5 : w2.cell? ⟨w.heap.size, 5, none⟩ = some (.int .i64 o) := by rw [hc2 _ _ (by omega), hc _ _ (by simp; omega)]; simp [World.cell?_alloc_some]
    have c6 : w2.cell? ⟨w.heap.size, 6, none⟩ = some (.int .i64 s) := by rw [hc2 _ _ (by omega), hc _ _ (by simp; omega)]; simp [World.cell?_alloc_some]
    have c7 : w2.cell? ⟨w.heap.size, 7, none⟩ = some (.int .i64 l) := by rw [hc2 _ _ (by omega), hc _ _ (by simp; omega)]; simp [World.cell?_alloc_some]
    have c8 : w2.cell? ⟨w.heap.size, 8, none⟩ = some (.int .i64 v) := by rw [hc2 _ _ (by omega), hc _ _ (by simp; omega)]; simp [World.cell?_alloc_some]
    clear hb hb2 hc hf hc2 hf2
    go_region_held3 (fun w' => Below w2.heap.size w2 w' ∧ w'.cell? ⟨w.heap.size, 0, none⟩ = some (.string p) ∧ w'.cell? ⟨w.heap.size, 1, none⟩ = some (.int .i64 b) ∧ w'.cell? ⟨w.heap.size, 2, none⟩ = some (.bool m) ∧ w'.cell? ⟨w.heap.size, 3, none⟩ = some (.bool t) ∧ w'.cell? ⟨w.heap.size, 4, none⟩ = some (.int .i64 k) ∧ w'.cell? ⟨w.heap.size, 5, none⟩ = some (.int .i64 o) ∧ w'.cell? ⟨w.heap.size, 6, none⟩ = some (.int .i64 s) ∧ w'.cell? ⟨w.heap.size, 7, none⟩ = some (.int .i64 l) ∧ w'.cell? ⟨w.heap.size, 8, none⟩ = some (.int .i64 v))
      (first | exact ⟨(Below.refl _ _).drew, c0, c1, c2, c3, c4, c5, c6, c7, c8⟩ | (have hq := bthen ‹Below w2.heap.size w2 _ ∧ _›.1 hb3; exact ⟨hq, cellAt hq hx c0, cellAt hq hx c1, cellAt hq hx c2, cellAt hq hx c3, cellAt hq hx c4, cellAt hq hx c5, cellAt hq hx c6, cellAt hq hx c7, cellAt hq hx c8⟩))
      (first
        | (go_at_call 17; refine (verdict_any _ _ _ _ _ _ _ _ _ _).mono ?_; rintro e w3 ⟨rfl, hb3⟩)
        | (go_at_call 18; refine (verdictR_any _ _ _ _ _ _ _ _ _ _).mono ?_; rintro e w3 ⟨rfl, hb3⟩)
        | (go_at_call 19; refine (name_any _ _).mono ?_; rintro e w3 ⟨rfl, hb3⟩)
        | (go_at_call 14; refine (lives25_any _).mono ?_; rintro e w3 ⟨rfl, hb3⟩))
    go_wp2_with fail
    go_ret
    exact ⟨rfl, bthen hb12 ‹Below w2.heap.size w2 _ ∧ _›.1⟩
  · have e4 : ((vname 1).toList == [116, 111, 32, 115, 101, 114, 118, 101, 114]) = true := by kernel_rfl
    go_enter Try.func4, Try.ntmps4
    go_wp2_with fail
    refine (result_any _ _ _ _ _ _ _ _ _ _).mono ?_
    rintro e w1 ⟨rfl, hb⟩
    obtain ⟨hc, hf⟩ := bcell hb
    go_wp2_with fail
    refine (resultR_any _ _ _ _ _ _ _ _ _ _).mono ?_
    rintro e w2 ⟨rfl, hb2⟩
    obtain ⟨hc2, hf2⟩ := bcell hb2
    go_wp2_with fail
    have hb12 : Below w.heap.size w w2 := bthen (bthen (by repeat (first | exact Below.refl _ _ | refine Below.alloc ?_ (by simp) _ | refine Below.setCell ?_ (by simp) _ | refine Below.drew ?_)) hb) hb2
    have hp1 : w.heap.size + 1 < w1.heap.size := by have := hb.size; simp at this; omega
    have hx : w.heap.size < w2.heap.size := by have := hb2.size; omega
    have c0 : w2.cell? ⟨w.heap.size, 0, none⟩ = some (.string p) := by rw [hc2 _ _ (by omega), hc _ _ (by simp; omega)]; simp [World.cell?_alloc_some]
    have c1 : w2.cell? ⟨w.heap.size, 1, none⟩ = some (.int .i64 b) := by rw [hc2 _ _ (by omega), hc _ _ (by simp; omega)]; simp [World.cell?_alloc_some]
    have c2 : w2.cell? ⟨w.heap.size, 2, none⟩ = some (.bool m) := by rw [hc2 _ _ (by omega), hc _ _ (by simp; omega)]; simp [World.cell?_alloc_some]
    have c3 : w2.cell? ⟨w.heap.size, 3, none⟩ = some (.bool t) := by rw [hc2 _ _ (by omega), hc _ _ (by simp; omega)]; simp [World.cell?_alloc_some]
    have c4 : w2.cell? ⟨w.heap.size, 4, none⟩ = some (.int .i64 k) := by rw [hc2 _ _ (by omega), hc _ _ (by simp; omega)]; simp [World.cell?_alloc_some]
    have c5 : w2.cell? ⟨w.heap.size, 5, none⟩ = some (.int .i64 o) := by rw [hc2 _ _ (by omega), hc _ _ (by simp; omega)]; simp [World.cell?_alloc_some]
    have c6 : w2.cell? ⟨w.heap.size, 6, none⟩ = some (.int .i64 s) := by rw [hc2 _ _ (by omega), hc _ _ (by simp; omega)]; simp [World.cell?_alloc_some]
    have c7 : w2.cell? ⟨w.heap.size, 7, none⟩ = some (.int .i64 l) := by rw [hc2 _ _ (by omega), hc _ _ (by simp; omega)]; simp [World.cell?_alloc_some]
    have c8 : w2.cell? ⟨w.heap.size, 8, none⟩ = some (.int .i64 v) := by rw [hc2 _ _ (by omega), hc _ _ (by simp; omega)]; simp [World.cell?_alloc_some]
    clear hb hb2 hc hf hc2 hf2
    go_region_held3 (fun w' => Below w2.heap.size w2 w' ∧ w'.cell? ⟨w.heap.size, 0, none⟩ = some (.string p) ∧ w'.cell? ⟨w.heap.size, 1, none⟩ = some (.int .i64 b) ∧ w'.cell? ⟨w.heap.size, 2, none⟩ = some (.bool m) ∧ w'.cell? ⟨w.heap.size, 3, none⟩ = some (.bool t) ∧ w'.cell? ⟨w.heap.size, 4, none⟩ = some (.int .i64 k) ∧ w'.cell? ⟨w.heap.size, 5, none⟩ = some (.int .i64 o) ∧ w'.cell? ⟨w.heap.size, 6, none⟩ = some (.int .i64 s) ∧ w'.cell? ⟨w.heap.size, 7, none⟩ = some (.int .i64 l) ∧ w'.cell? ⟨w.heap.size, 8, none⟩ = some (.int .i64 v))
      (first | exact ⟨(Below.refl _ _).drew, c0, c1, c2, c3, c4, c5, c6, c7, c8⟩ | (have hq := bthen ‹Below w2.heap.size w2 _ ∧ _›.1 hb3; exact ⟨hq, cellAt hq hx c0, cellAt hq hx c1, cellAt hq hx c2, cellAt hq hx c3, cellAt hq hx c4, cellAt hq hx c5, cellAt hq hx c6, cellAt hq hx c7, cellAt hq hx c8⟩))
      (first
        | (go_at_call 17; refine (verdict_any _ _ _ _ _ _ _ _ _ _).mono ?_; rintro e w3 ⟨rfl, hb3⟩)
        | (go_at_call 18; refine (verdictR_any _ _ _ _ _ _ _ _ _ _).mono ?_; rintro e w3 ⟨rfl, hb3⟩)
        | (go_at_call 19; refine (name_any _ _).mono ?_; rintro e w3 ⟨rfl, hb3⟩)
        | (go_at_call 14; refine (lives25_any _).mono ?_; rintro e w3 ⟨rfl, hb3⟩))
    go_wp2_with fail
    go_ret
    exact ⟨rfl, bthen hb12 ‹Below w2.heap.size w2 _ ∧ _›.1⟩
  · have e4 : ((vname 2).toList == [116, 111, 32, 99, 108, 105, 101, 110, 116]) = true := by kernel_rfl
    go_enter Try.func4, Try.ntmps4
    go_wp2_with fail
    refine (result_any _ _ _ _ _ _ _ _ _ _).mono ?_
    rintro e w1 ⟨rfl, hb⟩
    obtain ⟨hc, hf⟩ := bcell hb
    go_wp2_with fail
    refine (resultR_any _ _ _ _ _ _ _ _ _ _).mono ?_
    rintro e w2 ⟨rfl, hb2⟩
    obtain ⟨hc2, hf2⟩ := bcell hb2
    go_wp2_with fail
    have hb12 : Below w.heap.size w w2 := bthen (bthen (by repeat (first | exact Below.refl _ _ | refine Below.alloc ?_ (by simp) _ | refine Below.setCell ?_ (by simp) _ | refine Below.drew ?_)) hb) hb2
    have hp1 : w.heap.size + 1 < w1.heap.size := by have := hb.size; simp at this; omega
    have hx : w.heap.size < w2.heap.size := by have := hb2.size; omega
    have c0 : w2.cell? ⟨w.heap.size, 0, none⟩ = some (.string p) := by rw [hc2 _ _ (by omega), hc _ _ (by simp; omega)]; simp [World.cell?_alloc_some]
    have c1 : w2.cell? ⟨w.heap.size, 1, none⟩ = some (.int .i64 b) := by rw [hc2 _ _ (by omega), hc _ _ (by simp; omega)]; simp [World.cell?_alloc_some]
    have c2 : w2.cell? ⟨w.heap.size, 2, none⟩ = some (.bool m) := by rw [hc2 _ _ (by omega), hc _ _ (by simp; omega)]; simp [World.cell?_alloc_some]
    have c3 : w2.cell? ⟨w.heap.size, 3, none⟩ = some (.bool t) := by rw [hc2 _ _ (by omega), hc _ _ (by simp; omega)]; simp [World.cell?_alloc_some]
    have c4 : w2.cell? ⟨w.heap.size, 4, none⟩ = some (.int .i64 k) := by rw [hc2 _ _ (by omega), hc _ _ (by simp; omega)]; simp [World.cell?_alloc_some]
    have c5 : w2.cell? ⟨w.heap.size, 5, none⟩ = some (.int .i64 o) := by rw [hc2 _ _ (by omega), hc _ _ (by simp; omega)]; simp [World.cell?_alloc_some]
    have c6 : w2.cell? ⟨w.heap.size, 6, none⟩ = some (.int .i64 s) := by rw [hc2 _ _ (by omega), hc _ _ (by simp; omega)]; simp [World.cell?_alloc_some]
    have c7 : w2.cell? ⟨w.heap.size, 7, none⟩ = some (.int .i64 l) := by rw [hc2 _ _ (by omega), hc _ _ (by simp; omega)]; simp [World.cell?_alloc_some]
    have c8 : w2.cell? ⟨w.heap.size, 8, none⟩ = some (.int .i64 v) := by rw [hc2 _ _ (by omega), hc _ _ (by simp; omega)]; simp [World.cell?_alloc_some]
    clear hb hb2 hc hf hc2 hf2
    go_region_held3 (fun w' => Below w2.heap.size w2 w' ∧ w'.cell? ⟨w.heap.size, 0, none⟩ = some (.string p) ∧ w'.cell? ⟨w.heap.size, 1, none⟩ = some (.int .i64 b) ∧ w'.cell? ⟨w.heap.size, 2, none⟩ = some (.bool m) ∧ w'.cell? ⟨w.heap.size, 3, none⟩ = some (.bool t) ∧ w'.cell? ⟨w.heap.size, 4, none⟩ = some (.int .i64 k) ∧ w'.cell? ⟨w.heap.size, 5, none⟩ = some (.int .i64 o) ∧ w'.cell? ⟨w.heap.size, 6, none⟩ = some (.int .i64 s) ∧ w'.cell? ⟨w.heap.size, 7, none⟩ = some (.int .i64 l) ∧ w'.cell? ⟨w.heap.size, 8, none⟩ = some (.int .i64 v))
      (first | exact ⟨(Below.refl _ _).drew, c0, c1, c2, c3, c4, c5, c6, c7, c8⟩ | (have hq := bthen ‹Below w2.heap.size w2 _ ∧ _›.1 hb3; exact ⟨hq, cellAt hq hx c0, cellAt hq hx c1, cellAt hq hx c2, cellAt hq hx c3, cellAt hq hx c4, cellAt hq hx c5, cellAt hq hx c6, cellAt hq hx c7, cellAt hq hx c8⟩))
      (first
        | (go_at_call 17; refine (verdict_any _ _ _ _ _ _ _ _ _ _).mono ?_; rintro e w3 ⟨rfl, hb3⟩)
        | (go_at_call 18; refine (verdictR_any _ _ _ _ _ _ _ _ _ _).mono ?_; rintro e w3 ⟨rfl, hb3⟩)
        | (go_at_call 19; refine (name_any _ _).mono ?_; rintro e w3 ⟨rfl, hb3⟩)
        | (go_at_call 14; refine (lives25_any _).mono ?_; rintro e w3 ⟨rfl, hb3⟩))
    go_wp2_with fail
    go_ret
    exact ⟨rfl, bthen hb12 ‹Below w2.heap.size w2 _ ∧ _›.1⟩
  · have e4 : ((vname 3).toList == [115, 97, 109, 101]) = true := by kernel_rfl
    go_enter Try.func4, Try.ntmps4
    go_wp2_with fail
    refine (result_any _ _ _ _ _ _ _ _ _ _).mono ?_
    rintro e w1 ⟨rfl, hb⟩
    obtain ⟨hc, hf⟩ := bcell hb
    go_wp2_with fail
    refine (resultR_any _ _ _ _ _ _ _ _ _ _).mono ?_
    rintro e w2 ⟨rfl, hb2⟩
    obtain ⟨hc2, hf2⟩ := bcell hb2
    go_wp2_with fail
    have hb12 : Below w.heap.size w w2 := bthen (bthen (by repeat (first | exact Below.refl _ _ | refine Below.alloc ?_ (by simp) _ | refine Below.setCell ?_ (by simp) _ | refine Below.drew ?_)) hb) hb2
    have hp1 : w.heap.size + 1 < w1.heap.size := by have := hb.size; simp at this; omega
    have hx : w.heap.size < w2.heap.size := by have := hb2.size; omega
    have c0 : w2.cell? ⟨w.heap.size, 0, none⟩ = some (.string p) := by rw [hc2 _ _ (by omega), hc _ _ (by simp; omega)]; simp [World.cell?_alloc_some]
    have c1 : w2.cell? ⟨w.heap.size, 1, none⟩ = some (.int .i64 b) := by rw [hc2 _ _ (by omega), hc _ _ (by simp; omega)]; simp [World.cell?_alloc_some]
    have c2 : w2.cell? ⟨w.heap.size, 2, none⟩ = some (.bool m) := by rw [hc2 _ _ (by omega), hc _ _ (by simp; omega)]; simp [World.cell?_alloc_some]
    have c3 : w2.cell? ⟨w.heap.size, 3, none⟩ = some (.bool t) := by rw [hc2 _ _ (by omega), hc _ _ (by simp; omega)]; simp [World.cell?_alloc_some]
    have c4 : w2.cell? ⟨w.heap.size, 4, none⟩ = some (.int .i64 k) := by rw [hc2 _ _ (by omega), hc _ _ (by simp; omega)]; simp [World.cell?_alloc_some]
    have c5 : w2.cell? ⟨w.heap.size, 5, none⟩ = some (.int .i64 o) := by rw [hc2 _ _ (by omega), hc _ _ (by simp; omega)]; simp [World.cell?_alloc_some]
    have c6 : w2.cell? ⟨w.heap.size, 6, none⟩ = some (.int .i64 s) := by rw [hc2 _ _ (by omega), hc _ _ (by simp; omega)]; simp [World.cell?_alloc_some]
    have c7 : w2.cell? ⟨w.heap.size, 7, none⟩ = some (.int .i64 l) := by rw [hc2 _ _ (by omega), hc _ _ (by simp; omega)]; simp [World.cell?_alloc_some]
    have c8 : w2.cell? ⟨w.heap.size, 8, none⟩ = some (.int .i64 v) := by rw [hc2 _ _ (by omega), hc _ _ (by simp; omega)]; simp [World.cell?_alloc_some]
    clear hb hb2 hc hf hc2 hf2
    go_region_held3 (fun w' => Below w2.heap.size w2 w' ∧ w'.cell? ⟨w.heap.size, 0, none⟩ = some (.string p) ∧ w'.cell? ⟨w.heap.size, 1, none⟩ = some (.int .i64 b) ∧ w'.cell? ⟨w.heap.size, 2, none⟩ = some (.bool m) ∧ w'.cell? ⟨w.heap.size, 3, none⟩ = some (.bool t) ∧ w'.cell? ⟨w.heap.size, 4, none⟩ = some (.int .i64 k) ∧ w'.cell? ⟨w.heap.size, 5, none⟩ = some (.int .i64 o) ∧ w'.cell? ⟨w.heap.size, 6, none⟩ = some (.int .i64 s) ∧ w'.cell? ⟨w.heap.size, 7, none⟩ = some (.int .i64 l) ∧ w'.cell? ⟨w.heap.size, 8, none⟩ = some (.int .i64 v))
      (first | exact ⟨(Below.refl _ _).drew, c0, c1, c2, c3, c4, c5, c6, c7, c8⟩ | (have hq := bthen ‹Below w2.heap.size w2 _ ∧ _›.1 hb3; exact ⟨hq, cellAt hq hx c0, cellAt hq hx c1, cellAt hq hx c2, cellAt hq hx c3, cellAt hq hx c4, cellAt hq hx c5, cellAt hq hx c6, cellAt hq hx c7, cellAt hq hx c8⟩))
      (first
        | (go_at_call 17; refine (verdict_any _ _ _ _ _ _ _ _ _ _).mono ?_; rintro e w3 ⟨rfl, hb3⟩)
        | (go_at_call 18; refine (verdictR_any _ _ _ _ _ _ _ _ _ _).mono ?_; rintro e w3 ⟨rfl, hb3⟩)
        | (go_at_call 19; refine (name_any _ _).mono ?_; rintro e w3 ⟨rfl, hb3⟩)
        | (go_at_call 14; refine (lives25_any _).mono ?_; rintro e w3 ⟨rfl, hb3⟩))
    go_wp2_with fail
    go_ret
    exact ⟨rfl, bthen hb12 ‹Below w2.heap.size w2 _ ∧ _›.1⟩
  · have e4 : ((vname 4).toList == [108, 111, 111, 107]) = true := by kernel_rfl
    go_enter Try.func4, Try.ntmps4
    go_wp2_with fail
    refine (result_any _ _ _ _ _ _ _ _ _ _).mono ?_
    rintro e w1 ⟨rfl, hb⟩
    obtain ⟨hc, hf⟩ := bcell hb
    go_wp2_with fail
    refine (resultR_any _ _ _ _ _ _ _ _ _ _).mono ?_
    rintro e w2 ⟨rfl, hb2⟩
    obtain ⟨hc2, hf2⟩ := bcell hb2
    go_wp2_with fail
    have hb12 : Below w.heap.size w w2 := bthen (bthen (by repeat (first | exact Below.refl _ _ | refine Below.alloc ?_ (by simp) _ | refine Below.setCell ?_ (by simp) _ | refine Below.drew ?_)) hb) hb2
    have hp1 : w.heap.size + 1 < w1.heap.size := by have := hb.size; simp at this; omega
    have hx : w.heap.size < w2.heap.size := by have := hb2.size; omega
    have c0 : w2.cell? ⟨w.heap.size, 0, none⟩ = some (.string p) := by rw [hc2 _ _ (by omega), hc _ _ (by simp; omega)]; simp [World.cell?_alloc_some]
    have c1 : w2.cell? ⟨w.heap.size, 1, none⟩ = some (.int .i64 b) := by rw [hc2 _ _ (by omega), hc _ _ (by simp; omega)]; simp [World.cell?_alloc_some]
    have c2 : w2.cell? ⟨w.heap.size, 2, none⟩ = some (.bool m) := by rw [hc2 _ _ (by omega), hc _ _ (by simp; omega)]; simp [World.cell?_alloc_some]
    have c3 : w2.cell? ⟨w.heap.size, 3, none⟩ = some (.bool t) := by rw [hc2 _ _ (by omega), hc _ _ (by simp; omega)]; simp [World.cell?_alloc_some]
    have c4 : w2.cell? ⟨w.heap.size, 4, none⟩ = some (.int .i64 k) := by rw [hc2 _ _ (by omega), hc _ _ (by simp; omega)]; simp [World.cell?_alloc_some]
    have c5 : w2.cell? ⟨w.heap.size, 5, none⟩ = some (.int .i64 o) := by rw [hc2 _ _ (by omega), hc _ _ (by simp; omega)]; simp [World.cell?_alloc_some]
    have c6 : w2.cell? ⟨w.heap.size, 6, none⟩ = some (.int .i64 s) := by rw [hc2 _ _ (by omega), hc _ _ (by simp; omega)]; simp [World.cell?_alloc_some]
    have c7 : w2.cell? ⟨w.heap.size, 7, none⟩ = some (.int .i64 l) := by rw [hc2 _ _ (by omega), hc _ _ (by simp; omega)]; simp [World.cell?_alloc_some]
    have c8 : w2.cell? ⟨w.heap.size, 8, none⟩ = some (.int .i64 v) := by rw [hc2 _ _ (by omega), hc _ _ (by simp; omega)]; simp [World.cell?_alloc_some]
    clear hb hb2 hc hf hc2 hf2
    go_region_held3 (fun w' => Below w2.heap.size w2 w' ∧ w'.cell? ⟨w.heap.size, 0, none⟩ = some (.string p) ∧ w'.cell? ⟨w.heap.size, 1, none⟩ = some (.int .i64 b) ∧ w'.cell? ⟨w.heap.size, 2, none⟩ = some (.bool m) ∧ w'.cell? ⟨w.heap.size, 3, none⟩ = some (.bool t) ∧ w'.cell? ⟨w.heap.size, 4, none⟩ = some (.int .i64 k) ∧ w'.cell? ⟨w.heap.size, 5, none⟩ = some (.int .i64 o) ∧ w'.cell? ⟨w.heap.size, 6, none⟩ = some (.int .i64 s) ∧ w'.cell? ⟨w.heap.size, 7, none⟩ = some (.int .i64 l) ∧ w'.cell? ⟨w.heap.size, 8, none⟩ = some (.int .i64 v))
      (first | exact ⟨(Below.refl _ _).drew, c0, c1, c2, c3, c4, c5, c6, c7, c8⟩ | (have hq := bthen ‹Below w2.heap.size w2 _ ∧ _›.1 hb3; exact ⟨hq, cellAt hq hx c0, cellAt hq hx c1, cellAt hq hx c2, cellAt hq hx c3, cellAt hq hx c4, cellAt hq hx c5, cellAt hq hx c6, cellAt hq hx c7, cellAt hq hx c8⟩))
      (first
        | (go_at_call 17; refine (verdict_any _ _ _ _ _ _ _ _ _ _).mono ?_; rintro e w3 ⟨rfl, hb3⟩)
        | (go_at_call 18; refine (verdictR_any _ _ _ _ _ _ _ _ _ _).mono ?_; rintro e w3 ⟨rfl, hb3⟩)
        | (go_at_call 19; refine (name_any _ _).mono ?_; rintro e w3 ⟨rfl, hb3⟩)
        | (go_at_call 14; refine (lives25_any _).mono ?_; rintro e w3 ⟨rfl, hb3⟩))
    go_wp2_with fail
    go_ret
    exact ⟨rfl, bthen hb12 ‹Below w2.heap.size w2 _ ∧ _›.1⟩
  · have e4 : ((vname 5).toList == [99, 111, 110, 102, 108, 105, 99, 116]) = true := by kernel_rfl
    go_enter Try.func4, Try.ntmps4
    go_wp2_with fail
    refine (result_any _ _ _ _ _ _ _ _ _ _).mono ?_
    rintro e w1 ⟨rfl, hb⟩
    obtain ⟨hc, hf⟩ := bcell hb
    go_wp2_with fail
    refine (resultR_any _ _ _ _ _ _ _ _ _ _).mono ?_
    rintro e w2 ⟨rfl, hb2⟩
    obtain ⟨hc2, hf2⟩ := bcell hb2
    go_wp2_with fail
    have hb12 : Below w.heap.size w w2 := bthen (bthen (by repeat (first | exact Below.refl _ _ | refine Below.alloc ?_ (by simp) _ | refine Below.setCell ?_ (by simp) _ | refine Below.drew ?_)) hb) hb2
    have hp1 : w.heap.size + 1 < w1.heap.size := by have := hb.size; simp at this; omega
    have hx : w.heap.size < w2.heap.size := by have := hb2.size; omega
    have c0 : w2.cell? ⟨w.heap.size, 0, none⟩ = some (.string p) := by rw [hc2 _ _ (by omega), hc _ _ (by simp; omega)]; simp [World.cell?_alloc_some]
    have c1 : w2.cell? ⟨w.heap.size, 1, none⟩ = some (.int .i64 b) := by rw [hc2 _ _ (by omega), hc _ _ (by simp; omega)]; simp [World.cell?_alloc_some]
    have c2 : w2.cell? ⟨w.heap.size, 2, none⟩ = some (.bool m) := by rw [hc2 _ _ (by omega), hc _ _ (by simp; omega)]; simp [World.cell?_alloc_some]
    have c3 : w2.cell? ⟨w.heap.size, 3, none⟩ = some (.bool t) := by rw [hc2 _ _ (by omega), hc _ _ (by simp; omega)]; simp [World.cell?_alloc_some]
    have c4 : w2.cell? ⟨w.heap.size, 4, none⟩ = some (.int .i64 k) := by rw [hc2 _ _ (by omega), hc _ _ (by simp; omega)]; simp [World.cell?_alloc_some]
    have c5 : w2.cell? ⟨w.heap.size, 5, none⟩ = some (.int .i64 o) := by rw [hc2 _ _ (by omega), hc _ _ (by simp; omega)]; simp [World.cell?_alloc_some]
    have c6 : w2.cell? ⟨w.heap.size, 6, none⟩ = some (.int .i64 s) := by rw [hc2 _ _ (by omega), hc _ _ (by simp; omega)]; simp [World.cell?_alloc_some]
    have c7 : w2.cell? ⟨w.heap.size, 7, none⟩ = some (.int .i64 l) := by rw [hc2 _ _ (by omega), hc _ _ (by simp; omega)]; simp [World.cell?_alloc_some]
    have c8 : w2.cell? ⟨w.heap.size, 8, none⟩ = some (.int .i64 v) := by rw [hc2 _ _ (by omega), hc _ _ (by simp; omega)]; simp [World.cell?_alloc_some]
    clear hb hb2 hc hf hc2 hf2
    go_region_held3 (fun w' => Below w2.heap.size w2 w' ∧ w'.cell? ⟨w.heap.size, 0, none⟩ = some (.string p) ∧ w'.cell? ⟨w.heap.size, 1, none⟩ = some (.int .i64 b) ∧ w'.cell? ⟨w.heap.size, 2, none⟩ = some (.bool m) ∧ w'.cell? ⟨w.heap.size, 3, none⟩ = some (.bool t) ∧ w'.cell? ⟨w.heap.size, 4, none⟩ = some (.int .i64 k) ∧ w'.cell? ⟨w.heap.size, 5, none⟩ = some (.int .i64 o) ∧ w'.cell? ⟨w.heap.size, 6, none⟩ = some (.int .i64 s) ∧ w'.cell? ⟨w.heap.size, 7, none⟩ = some (.int .i64 l) ∧ w'.cell? ⟨w.heap.size, 8, none⟩ = some (.int .i64 v))
      (first | exact ⟨(Below.refl _ _).drew, c0, c1, c2, c3, c4, c5, c6, c7, c8⟩ | (have hq := bthen ‹Below w2.heap.size w2 _ ∧ _›.1 hb3; exact ⟨hq, cellAt hq hx c0, cellAt hq hx c1, cellAt hq hx c2, cellAt hq hx c3, cellAt hq hx c4, cellAt hq hx c5, cellAt hq hx c6, cellAt hq hx c7, cellAt hq hx c8⟩))
      (first
        | (go_at_call 17; refine (verdict_any _ _ _ _ _ _ _ _ _ _).mono ?_; rintro e w3 ⟨rfl, hb3⟩)
        | (go_at_call 18; refine (verdictR_any _ _ _ _ _ _ _ _ _ _).mono ?_; rintro e w3 ⟨rfl, hb3⟩)
        | (go_at_call 19; refine (name_any _ _).mono ?_; rintro e w3 ⟨rfl, hb3⟩)
        | (go_at_call 14; refine (lives25_any _).mono ?_; rintro e w3 ⟨rfl, hb3⟩))
    go_wp2_with fail
    go_ret
    exact ⟨rfl, bthen hb12 ‹Below w2.heap.size w2 _ ∧ _›.1⟩
end Go.Proofs.Ytofllgmieciakaa
