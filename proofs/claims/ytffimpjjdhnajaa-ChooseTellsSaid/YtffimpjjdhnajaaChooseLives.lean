/- choose.Forced; tenderlaw27.lives; opening choices. -/
import Derived.Test.YtffimpjjdhnajaaChooseApply
import Derived.Test.YtffimpjjdhnajaaOpenCh
namespace Go.Proofs.Ytffimpjjdhnajaa
open Go.RowKit Go.WideShapes Go.ChangeShapes Go.ChangeAt Go.ChangeMaps Go.Deep Go.Joins

def forcedB (x : CV) : Bool := (x.v == 1 && x.t) || (x.v == 2 && x.m)
set_option maxHeartbeats 400000 in
theorem forced_any (x : CV) (w : World) : Calls Try.prog 52 #[x.val] w fun e w' => e = .returned (.bool (forcedB x)) ∧ Below w.heap.size w w' := by
  obtain ⟨M, hM⟩ : ∃ M, M = forcedB x := ⟨_, rfl⟩
  rw [← hM]
  unfold forcedB at hM
  obtain ⟨p, b, m, t, k, o, s, l, v⟩ := x
  dsimp only at hM
  have HM := Lib.hid hM
  clear hM
  cases h1 : (v == 1) <;> cases h2 : (v == 2) <;> cases t <;> cases m
  all_goals
    go_enter Try.func52, Try.ntmps52
    go_wp2_with fail
    go_ret
    exact ⟨ret_b (by rw [HM.out, h1, h2]; rfl), (by repeat (first | exact Below.refl _ _ | refine Below.alloc ?_ (by simp) _ | refine Below.setCell ?_ (by simp) _ | refine Below.drew ?_))⟩

def la1 : CV := ⟨⟨#[100]⟩, 0, true, true, 1, 2, 0, 0, 5⟩
def la2 : CV := ⟨⟨#[100, 47, 97]⟩, 0, false, true, 0, 1, 0, 0, 5⟩
def lb1 : CV := ⟨⟨#[100]⟩, 0, true, true, 1, 2, 0, 0, 1⟩
def lb2 : CV := ⟨⟨#[100, 47, 97]⟩, 0, false, true, 0, 1, 0, 0, 1⟩
def lch : HV := ⟨⟨#[100]⟩, 1⟩
theorem la_closed : Closed [la1, la2] := by
  rw [← closed_sound]
  kernel_rfl
theorem lb_closed : Closed [lb1, lb2] := by
  rw [← closed_sound]
  kernel_rfl
theorem la_map : [la1, la2].map (choM [lch]) = [lb1, lb2] := by kernel_rfl

set_option maxRecDepth 100000 in
set_option maxHeartbeats 1000000 in
theorem lives27_any (w : World) : Calls Try.prog 45 #[] w fun e w' => e = .returned (.bool true) ∧ Below w.heap.size w w' := by
  have HF : Hid (∀ w, Calls Try.prog 52 #[lb1.val] w fun e w' => e = .returned (.bool true) ∧ Below w.heap.size w w') := fun w => forced_any lb1 w
  have hA : Rd ((w.alloc (.cells #[.string ⟨#[100]⟩, .int .i64 0, .bool true, .bool true, .int .i64 1, .int .i64 2, .int .i64 0, .int .i64 0, .int .i64 5, .string ⟨#[100, 47, 97]⟩, .int .i64 0, .bool false, .bool true, .int .i64 0, .int .i64 1, .int .i64 0, .int .i64 0, .int .i64 5] 44)).alloc (.cells #[.string ⟨#[100]⟩, .int .i64 1] 74)) (fun b => w.heap.size ≤ b) 9 (some ⟨w.heap.size, 0, none⟩) 2 ([la1, la2].flatMap CV.cells) := (Rd.lit rfl rfl rfl).alloc _
  have hB : Rd ((w.alloc (.cells #[.string ⟨#[100]⟩, .int .i64 0, .bool true, .bool true, .int .i64 1, .int .i64 2, .int .i64 0, .int .i64 0, .int .i64 5, .string ⟨#[100, 47, 97]⟩, .int .i64 0, .bool false, .bool true, .int .i64 0, .int .i64 1, .int .i64 0, .int .i64 0, .int .i64 5] 44)).alloc (.cells #[.string ⟨#[100]⟩, .int .i64 1] 74)) (fun b => (w.alloc (.cells #[.string ⟨#[100]⟩, .int .i64 0, .bool true, .bool true, .int .i64 1, .int .i64 2, .int .i64 0, .int .i64 0, .int .i64 5, .string ⟨#[100, 47, 97]⟩, .int .i64 0, .bool false, .bool true, .int .i64 0, .int .i64 1, .int .i64 0, .int .i64 0, .int .i64 5] 44)).heap.size ≤ b) 2 (some ⟨w.heap.size + 1, 0, none⟩) 1 ([lch].flatMap HV.cells) := Rd.lit rfl rfl (by simp)
  have hb0 : Below w.heap.size w ((w.alloc (.cells #[.string ⟨#[100]⟩, .int .i64 0, .bool true, .bool true, .int .i64 1, .int .i64 2, .int .i64 0, .int .i64 0, .int .i64 5, .string ⟨#[100, 47, 97]⟩, .int .i64 0, .bool false, .bool true, .int .i64 0, .int .i64 1, .int .i64 0, .int .i64 0, .int .i64 5] 44)).alloc (.cells #[.string ⟨#[100]⟩, .int .i64 1] 74)) := (by repeat (first | exact Below.refl _ _ | refine Below.alloc ?_ (by simp) _ | refine Below.setCell ?_ (by simp) _ | refine Below.drew ?_))
  have HA : Hid (Chs ((w.alloc (.cells #[.string ⟨#[100]⟩, .int .i64 0, .bool true, .bool true, .int .i64 1, .int .i64 2, .int .i64 0, .int .i64 0, .int .i64 5, .string ⟨#[100, 47, 97]⟩, .int .i64 0, .bool false, .bool true, .int .i64 0, .int .i64 1, .int .i64 0, .int .i64 0, .int .i64 5] 44)).alloc (.cells #[.string ⟨#[100]⟩, .int .i64 1] 74)) (fun b => b < ((w.alloc (.cells #[.string ⟨#[100]⟩, .int .i64 0, .bool true, .bool true, .int .i64 1, .int .i64 2, .int .i64 0, .int .i64 0, .int .i64 5, .string ⟨#[100, 47, 97]⟩, .int .i64 0, .bool false, .bool true, .int .i64 0, .int .i64 1, .int .i64 0, .int .i64 0, .int .i64 5] 44)).alloc (.cells #[.string ⟨#[100]⟩, .int .i64 1] 74)).heap.size) (some ⟨w.heap.size, 0, none⟩) [la1, la2]) := ⟨hA.mono (fun b hb _ => hb), by
    intro o ho
    simp only [List.mem_cons, List.not_mem_nil, or_false] at ho
    rcases ho with rfl | rfl <;> decide, by simp⟩
  have HB : Hid (Hvs ((w.alloc (.cells #[.string ⟨#[100]⟩, .int .i64 0, .bool true, .bool true, .int .i64 1, .int .i64 2, .int .i64 0, .int .i64 0, .int .i64 5, .string ⟨#[100, 47, 97]⟩, .int .i64 0, .bool false, .bool true, .int .i64 0, .int .i64 1, .int .i64 0, .int .i64 0, .int .i64 5] 44)).alloc (.cells #[.string ⟨#[100]⟩, .int .i64 1] 74)) (fun b => b < ((w.alloc (.cells #[.string ⟨#[100]⟩, .int .i64 0, .bool true, .bool true, .int .i64 1, .int .i64 2, .int .i64 0, .int .i64 0, .int .i64 5, .string ⟨#[100, 47, 97]⟩, .int .i64 0, .bool false, .bool true, .int .i64 0, .int .i64 1, .int .i64 0, .int .i64 0, .int .i64 5] 44)).alloc (.cells #[.string ⟨#[100]⟩, .int .i64 1] 74)).heap.size) (some ⟨w.heap.size + 1, 0, none⟩) [lch]) := ⟨hB.mono (fun b hb _ => hb), by
    intro o ho
    simp only [List.mem_cons, List.not_mem_nil, or_false] at ho
    subst ho
    decide, by simp⟩
  clear hA hB
  go_enter Try.func45, Try.ntmps45
  go_wp2_with fail
  refine (choApply_any (some ⟨w.heap.size, 0, none⟩) (some ⟨w.heap.size + 1, 0, none⟩) 2 1 [la1, la2] [lch] _ HA.out HB.out (by simp)).mono ?_
  rintro e w1 ⟨A', c', x, y, rfl, hx, hy, hrd, hb⟩
  obtain rfl := Closes.unique hx (Closes.refl la_closed)
  rw [la_map] at hy
  obtain rfl := Closes.unique hy (Closes.refl lb_closed)
  have hb1 := hb0.trans (hb.mono hb0.size)
  obtain ⟨b, off, rfl, hz, hbb, hc⟩ := hrd.2 (by simp)
  have c0 : w1.cell? ⟨b, off, none⟩ = some (.string ⟨#[100]⟩) := hc 0 _ rfl
  have c1 : w1.cell? ⟨b, off + 1, none⟩ = some (.int .i64 0) := hc 1 _ rfl
  have c2 : w1.cell? ⟨b, off + 2, none⟩ = some (.bool true) := hc 2 _ rfl
  have c3 : w1.cell? ⟨b, off + 3, none⟩ = some (.bool true) := hc 3 _ rfl
  have c4 : w1.cell? ⟨b, off + 4, none⟩ = some (.int .i64 1) := hc 4 _ rfl
  have c5 : w1.cell? ⟨b, off + 5, none⟩ = some (.int .i64 2) := hc 5 _ rfl
  have c6 : w1.cell? ⟨b, off + 6, none⟩ = some (.int .i64 0) := hc 6 _ rfl
  have c7 : w1.cell? ⟨b, off + 7, none⟩ = some (.int .i64 0) := hc 7 _ rfl
  have c8 : w1.cell? ⟨b, off + 8, none⟩ = some (.int .i64 1) := hc 8 _ rfl
  have d8 : w1.cell? ⟨b, off + 9 + 8, none⟩ = some (.int .i64 1) := hc 17 _ rfl
  clear hc hrd hx hy hb
  go_wp2_with fail
  refine (HF.out _).mono ?_
  rintro e w2 ⟨rfl, hb2⟩
  clear c0 c1 c2 c3 c4 c5 c6 c7 c8 d8
  go_wp2_with fail
  go_ret
  exact ⟨rfl, hb1.trans (hb2.mono hb1.size)⟩

section
variable {H : Type} {enc : TypeId × Value → H} {w : World} {spare : Nat → Bool} {held : Bool}
set_option maxRecDepth 100000 in
theorem open_hv {n : Nat} {cs : List Value} {x : DataW H × List MemPlace} (h : DataW.trod enc Try.prog w 0 spare held n 74 cs = some x) (hw : Within 74 x) :
    ∃ o : HV, cs = o.cells ∧ o.p.size ≤ 140737488355328 := by
  obtain ⟨ys, n', hcl, hyl, hf⟩ := open_st Try.underlying74 (by kernel_rfl) h (by kernel_rfl) hw
  match cs, ys, hcl, hyl, hf with
  | [a0, a1], [y0, y1], _, _, hf =>
  obtain ⟨f0, w0⟩ := hf 0 _ _ _ rfl rfl rfl
  obtain ⟨f1, _⟩ := hf 1 _ _ _ rfl rfl rfl
  obtain ⟨p, e0, hx0, _⟩ := DataW.trod_string Try.underlying9 f0
  obtain rfl := List.singleton_inj.1 e0
  obtain ⟨v1, e1, _, _⟩ := DataW.trod_int Try.underlying3 f1
  obtain rfl := List.singleton_inj.1 e1
  refine ⟨⟨p, v1⟩, rfl, ?_⟩
  rw [hx0] at w0
  have h1 := str_within w0
  have h2 : p.data.toList.length = p.size := tl_len p
  show p.size ≤ _
  omega
set_option maxRecDepth 100000 in
theorem open_hvs {n : Nat} {v : Value} {x : DataW H × List MemPlace} (h : DataW.trod enc Try.prog w 0 spare held n 50 [v] = some x) (hw : Within 50 x) :
    ∃ (A : Option Addr) (c : Nat) (l : List HV), v = .slice A l.length c ∧ Hvs w (fun b => b < w.heap.size) A l := by
  obtain ⟨A, c, l, rfl, _, _, h3, h4, h5⟩ := open_sl (w := w) (enc := enc) (spare := spare) (held := held) HV.cells (fun o => o.p.size ≤ 140737488355328) 2 24 (t := 50) (e := 74) Try.underlying50 (by kernel_rfl) (by kernel_rfl) (by omega) (fun n cs x hx hx2 => open_hv hx hx2) h hw
  refine ⟨A, c, l, rfl, h3, h4, ?_⟩
  have := reachBytes_lt
  omega
end
end Go.Proofs.Ytffimpjjdhnajaa
