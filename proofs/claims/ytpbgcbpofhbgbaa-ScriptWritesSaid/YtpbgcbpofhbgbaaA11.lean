/- script.one: the act of a byte, and of others behind it. -/
import Derived.Test.YtpbgcbpofhbgbaaA10

namespace Go.Proofs.Ytpbgcbpofhbgbaa
open Go.RowKit

def oneS (x : Nat) (l : List UInt8) : AS × List UInt8 :=
  if x % 16 = 10 ∨ x % 16 = 11 then ({ k := (x : Int) % 16 - 7, ek := 1 + ((nx l).1 : Int) % 5, p := pathV (nx (nx l).2).1, t := pathV ((nx (nx l).2).1 / 16), x := dataV (nx l).1 (nx (nx l).2).1 }, (nx (nx l).2).2)
  else if x % 16 = 12 then ({ k := if x / 16 % 4 = 0 then 5 else if x / 16 % 4 = 1 then 6 else 7, s := 1 + (x : Int) / 128, n := ((nx l).1 : Int), b := 3 * ((nx l).1 : Int), m := 1 + 256 * ((nx (nx l).2).1 : Int) }, (nx (nx l).2).2)
  else if x % 16 = 13 then ({ k := 8 + (x : Int) / 16 % 2, n := ((nx l).1 : Int) % 16, kl := [⟨((nx l).1 : Int) / 16, ((nx (nx l).2).1 : Int)⟩] }, (nx (nx l).2).2)
  else if x % 16 = 14 then ({ k := 10 + (x : Int) / 16 % 2, n := ((nx l).1 : Int) % 16 }, (nx l).2)
  else if x % 16 = 15 then (if x / 16 % 2 = 1 then ({ k := 12, cl := [⟨pathV (nx l).1, 1 + ((nx l).1 : Int) / 128⟩] }, (nx l).2) else ({ k := 12 }, l))
  else ({ k := 1 + (x : Int) % 16 / 5, n := if 128 ≤ x then (x : Int) - 128 else 1400 }, l)

/-- what is claimed of it -/
def OneTo (w : World) (g : Nat) (Z : Nat → Prop) (r : AS × List UInt8) (e : Ending) (w' : World) : Prop :=
  ∃ a : AV, e = .returned a.val ∧ Hid (a.a = r.1) ∧ a.ok w' (fun b => w.heap.size ≤ b) ∧ NxTo w g Z r.2 w'
abbrev nxF (g : Nat) : Value := .func (.func 51) #[] #[.pointer (some ⟨g, 0, none⟩)]

theorem fit_k {k n : Int} (h : -9223372036854775808 ≤ k ∧ k < 9223372036854775808) (h' : -9223372036854775808 ≤ n ∧ n < 9223372036854775808) : AS.fit { k := k, n := n } :=
  ⟨h, by simp, h', by simp, by simp, by simp, Nat.zero_le _, Nat.zero_le _, by simp, by simp, by simp, by simp, by simp⟩
theorem ok_bare {w : World} {Z : Nat → Prop} {k n : Int} (h : -9223372036854775808 ≤ k ∧ k < 9223372036854775808) (h' : -9223372036854775808 ≤ n ∧ n < 9223372036854775808) : AV.ok w Z { a := { k := k, n := n } } :=
  ⟨Rd.nil, Rd.nil, Rd.nil, fit_k h h'⟩
/-- the world with two blocks more -/
theorem nx_two {w : World} {g : Nat} {Z : Nat → Prop} {l : List UInt8} (h : NxAt w g Z l) (o o' : Obj) : NxTo w g Z l ((w.alloc o).alloc o') :=
  ⟨(h.below ((Below.refl _ _).alloc (Nat.le_refl _) o)).below ((Below.refl _ _).alloc (Nat.le_refl _) o'), ((Fr.refl _ w).alloc o).alloc o'⟩

theorem NxTo.side {a b c : World} {g r : Nat} {Z : Nat → Prop} {l : List UInt8} (h : NxTo a g Z l b) (k : Fr (fun x => x = r) b c) (hr : a.heap.size ≤ r) (hZ : ∀ b, Z b → b < g) (hg : g < a.heap.size) : NxTo a g Z l c :=
  ⟨h.at_.fr k (by omega) (fun b _ hb e => by have := hZ b hb; omega), h.fr.trans k (fun x hx e => by omega)⟩
theorem z_not {g : Nat} {Z : Nat → Prop} (hZ : ∀ b, Z b → b < g) : ¬ Z g := fun h => by have := hZ g h; omega

set_option maxRecDepth 100000 in
set_option maxHeartbeats 1000000 in
theorem one_plain (g : Nat) (Z : Nat → Prop) (x : Nat) (hx : x < 256) (h10 : x % 16 < 10) (l : List UInt8) (w : World) (h : NxAt w g Z l) (hZ : ∀ b, Z b → b < g) :
    Calls Try.prog 52 #[.int .i64 (x : Int), nxF g] w (OneTo w g Z (oneS x l)) := by
  have _hZ := hZ
  obtain ⟨R, hR⟩ : ∃ R, R = oneS x l := ⟨_, rfl⟩
  rw [← hR]
  have HR := Lib.hid hR
  clear hR
  have H := Lib.hid h
  have hg := h.lt
  clear h
  have n10 : ((x : Int) % 16 == 10) = false := by simp; omega
  have n11 : ((x : Int) % 16 == 11) = false := by simp; omega
  have n12 : ((x : Int) % 16 == 12) = false := by simp; omega
  have n13 : ((x : Int) % 16 == 13) = false := by simp; omega
  have n14 : ((x : Int) % 16 == 14) = false := by simp; omega
  have n15 : ((x : Int) % 16 == 15) = false := by simp; omega
  by_cases h128 : 128 ≤ x
  · have q : decide ((x : Int) ≥ 128) = true := by simp; omega
    obtain rfl : R = ({ k := 1 + (x : Int) % 16 / 5, n := (x : Int) - 128 }, l) := by rw [HR.out]; unfold oneS; rw [if_neg (by omega), if_neg (by omega), if_neg (by omega), if_neg (by omega), if_neg (by omega), if_pos h128]
    go_enter Try.func52, Try.ntmps52
    go_wp2_with fail
    refine act_res (r := w.heap.size) rfl rfl rfl ((Blk.new w 57 _).alloc _) ?_
    exact ⟨{ a := { k := 1 + (x : Int) % 16 / 5, n := (x : Int) - 128 } }, rfl, rfl, ok_bare (by omega) (by omega), nx_two H.out _ _⟩
  
  · have q : decide ((x : Int) ≥ 128) = false := by simp; omega
    obtain rfl : R = ({ k := 1 + (x : Int) % 16 / 5, n := 1400 }, l) := by rw [HR.out]; unfold oneS; rw [if_neg (by omega), if_neg (by omega), if_neg (by omega), if_neg (by omega), if_neg (by omega), if_neg h128]
    go_enter Try.func52, Try.ntmps52
    go_wp2_with fail
    refine act_res (r := w.heap.size) rfl rfl rfl ((Blk.new w 57 _).alloc _) ?_
    exact ⟨{ a := { k := 1 + (x : Int) % 16 / 5, n := 1400 } }, rfl, rfl, ok_bare (by omega) (by omega), nx_two H.out _ _⟩
set_option maxRecDepth 100000 in
set_option maxHeartbeats 1000000 in
theorem one_14 (g : Nat) (Z : Nat → Prop) (x : Nat) (hx : x < 256) (h14 : x % 16 = 14) (l : List UInt8) (w : World) (h : NxAt w g Z l) (hZ : ∀ b, Z b → b < g) :
    Calls Try.prog 52 #[.int .i64 (x : Int), nxF g] w (OneTo w g Z (oneS x l)) := by
  have _hZ := hZ
  obtain ⟨R, hR⟩ : ∃ R, R = oneS x l := ⟨_, rfl⟩
  rw [← hR]
  have HR := Lib.hid hR
  clear hR
  have H := Lib.hid h
  have hg := h.lt
  clear h
  have n10 : ((x : Int) % 16 == 10) = false := by simp; omega
  have n11 : ((x : Int) % 16 == 11) = false := by simp; omega
  have n12 : ((x : Int) % 16 == 12) = false := by simp; omega
  have n13 : ((x : Int) % 16 == 13) = false := by simp; omega
  have n14 : ((x : Int) % 16 == 14) = true := by simp; omega
  have n15 : ((x : Int) % 16 == 15) = false := by simp; omega
  have hz := z_not hZ
  have hu := nx_lt l
  have HN := Lib.hid (fun W (hW : NxAt W g Z l) => next_any g Z l W hW hz)
  obtain rfl : R = ({ k := 10 + (x : Int) / 16 % 2, n := ((nx l).1 : Int) % 16 }, (nx l).2) := by rw [HR.out]; unfold oneS; rw [if_neg (by omega), if_neg (by omega), if_neg (by omega), if_pos h14]
  clear HR
  generalize nx l = u at *
  obtain ⟨u, l1⟩ := u
  dsimp only at *
  have hb1 : Below w.heap.size w (w.alloc (.cells #[.int .i64 0, .int .i64 0, .int .i64 0, .int .i64 0, .int .u32 0, .int .i64 0, .string ⟨#[]⟩, .string ⟨#[]⟩, .slice none 0 0, .slice none 0 0, .slice none 0 0] 57)) := (by repeat (first | exact Below.refl _ _ | refine Below.alloc ?_ (by simp) _ | refine Below.setCell ?_ (by simp) _ | refine Below.drew ?_))
  have hr1 := Blk.new w 57 #[.int .i64 0, .int .i64 0, .int .i64 0, .int .i64 0, .int .u32 0, .int .i64 0, .string ⟨#[]⟩, .string ⟨#[]⟩, .slice none 0 0, .slice none 0 0, .slice none 0 0]
  go_enter Try.func52, Try.ntmps52
  go_wp2_with fail
  refine (HN.out _ (H.out.below hb1)).mono ?_
  rintro e w2 ⟨rfl, h2⟩
  have hr2 := hr1.fr h2.fr (by omega)
  have r0 : w2.cell? ⟨w.heap.size, 0, none⟩ = some (.int .i64 0) := hr2.cell 0
  have z0 := hr2.frozen 0
  have r1 : w2.cell? ⟨w.heap.size, 1, none⟩ = some (.int .i64 0) := hr2.cell 1
  have z1 := hr2.frozen 1
  have r2 : w2.cell? ⟨w.heap.size, 2, none⟩ = some (.int .i64 0) := hr2.cell 2
  have z2 := hr2.frozen 2
  have r3 : w2.cell? ⟨w.heap.size, 3, none⟩ = some (.int .i64 0) := hr2.cell 3
  have z3 := hr2.frozen 3
  have r4 : w2.cell? ⟨w.heap.size, 4, none⟩ = some (.int .u32 0) := hr2.cell 4
  have z4 := hr2.frozen 4
  have r5 : w2.cell? ⟨w.heap.size, 5, none⟩ = some (.int .i64 0) := hr2.cell 5
  have z5 := hr2.frozen 5
  have r6 : w2.cell? ⟨w.heap.size, 6, none⟩ = some (.string ⟨#[]⟩) := hr2.cell 6
  have z6 := hr2.frozen 6
  have r7 : w2.cell? ⟨w.heap.size, 7, none⟩ = some (.string ⟨#[]⟩) := hr2.cell 7
  have z7 := hr2.frozen 7
  have r8 : w2.cell? ⟨w.heap.size, 8, none⟩ = some (.slice none 0 0) := hr2.cell 8
  have z8 := hr2.frozen 8
  have r9 : w2.cell? ⟨w.heap.size, 9, none⟩ = some (.slice none 0 0) := hr2.cell 9
  have z9 := hr2.frozen 9
  have r10 : w2.cell? ⟨w.heap.size, 10, none⟩ = some (.slice none 0 0) := hr2.cell 10
  have z10 := hr2.frozen 10
  go_wp2_with fail
  refine act_ret hr2 rfl rfl rfl rfl ?_
  intro V hV fV
  exact ⟨{ a := { k := 10 + (x : Int) / 16 % 2, n := (u : Int) % 16 } }, rfl, rfl, ok_bare (by omega) (by omega), (NxTo.after hb1 h2).side fV (Nat.le_refl _) hZ hg⟩

set_option maxRecDepth 100000 in
set_option maxHeartbeats 1000000 in
theorem one_15 (g : Nat) (Z : Nat → Prop) (x : Nat) (hx : x < 256) (h15 : x % 16 = 15) (l : List UInt8) (w : World) (h : NxAt w g Z l) (hZ : ∀ b, Z b → b < g) :
    Calls Try.prog 52 #[.int .i64 (x : Int), nxF g] w (OneTo w g Z (oneS x l)) := by
  have _hZ := hZ
  obtain ⟨R, hR⟩ : ∃ R, R = oneS x l := ⟨_, rfl⟩
  rw [← hR]
  have HR := Lib.hid hR
  clear hR
  have H := Lib.hid h
  have hg := h.lt
  clear h
  have n10 : ((x : Int) % 16 == 10) = false := by simp; omega
  have n11 : ((x : Int) % 16 == 11) = false := by simp; omega
  have n12 : ((x : Int) % 16 == 12) = false := by simp; omega
  have n13 : ((x : Int) % 16 == 13) = false := by simp; omega
  have n14 : ((x : Int) % 16 == 14) = false := by simp; omega
  have n15 : ((x : Int) % 16 == 15) = true := by simp; omega
  by_cases h2 : x / 16 % 2 = 1
  · have q : ((x : Int) / 16 % 2 == 1) = true := by simp; omega
    have hz := z_not hZ
    have hu := nx_lt l
    have HN := Lib.hid (fun W (hW : NxAt W g Z l) => next_any g Z l W hW hz)
    obtain rfl : R = ({ k := 12, cl := [⟨pathV (nx l).1, 1 + ((nx l).1 : Int) / 128⟩] }, (nx l).2) := by rw [HR.out]; unfold oneS; rw [if_neg (by omega), if_neg (by omega), if_neg (by omega), if_neg (by omega), if_pos h15, if_pos h2]
    clear HR
    generalize nx l = u at *
    obtain ⟨u, l1⟩ := u
    dsimp only at *
    have hP := pathV_size u
    have HP := Lib.hid (fun w => path_any u (by omega) w)
    generalize pathV u = P at *
    have hb1 : Below w.heap.size w ((w.alloc (.cells #[.int .i64 0, .int .i64 0, .int .i64 0, .int .i64 0, .int .u32 0, .int .i64 0, .string ⟨#[]⟩, .string ⟨#[]⟩, .slice none 0 0, .slice none 0 0, .slice none 0 0] 57)).alloc (.cells #[.int .i64 12, .int .i64 0, .int .i64 0, .int .i64 0, .int .u32 0, .int .i64 0, .string ⟨#[]⟩, .string ⟨#[]⟩, .slice none 0 0, .slice none 0 0, .slice none 0 0] 57)) := (by repeat (first | exact Below.refl _ _ | refine Below.alloc ?_ (by simp) _ | refine Below.setCell ?_ (by simp) _ | refine Below.drew ?_))
    have hr1 := (Blk.new w 57 #[.int .i64 0, .int .i64 0, .int .i64 0, .int .i64 0, .int .u32 0, .int .i64 0, .string ⟨#[]⟩, .string ⟨#[]⟩, .slice none 0 0, .slice none 0 0, .slice none 0 0]).alloc (.cells #[.int .i64 12, .int .i64 0, .int .i64 0, .int .i64 0, .int .u32 0, .int .i64 0, .string ⟨#[]⟩, .string ⟨#[]⟩, .slice none 0 0, .slice none 0 0, .slice none 0 0] 57)
    have ha1 := Blk.new (w.alloc (.cells #[.int .i64 0, .int .i64 0, .int .i64 0, .int .i64 0, .int .u32 0, .int .i64 0, .string ⟨#[]⟩, .string ⟨#[]⟩, .slice none 0 0, .slice none 0 0, .slice none 0 0] 57)) 57 #[.int .i64 12, .int .i64 0, .int .i64 0, .int .i64 0, .int .u32 0, .int .i64 0, .string ⟨#[]⟩, .string ⟨#[]⟩, .slice none 0 0, .slice none 0 0, .slice none 0 0]
    rw [World.size_alloc] at ha1
    go_enter Try.func52, Try.ntmps52
    go_wp2_with fail
    refine (HN.out _ (H.out.below hb1)).mono ?_
    rintro e w2 ⟨rfl, h2⟩
    have hr2 := hr1.fr h2.fr (by omega)
    have ha2 := ha1.fr h2.fr (by omega)
    have r0 : w2.cell? ⟨w.heap.size, 0, none⟩ = some (.int .i64 0) := hr2.cell 0
    have z0 := hr2.frozen 0
    have r1 : w2.cell? ⟨w.heap.size, 1, none⟩ = some (.int .i64 0) := hr2.cell 1
    have z1 := hr2.frozen 1
    have r2 : w2.cell? ⟨w.heap.size, 2, none⟩ = some (.int .i64 0) := hr2.cell 2
    have z2 := hr2.frozen 2
    have r3 : w2.cell? ⟨w.heap.size, 3, none⟩ = some (.int .i64 0) := hr2.cell 3
    have z3 := hr2.frozen 3
    have r4 : w2.cell? ⟨w.heap.size, 4, none⟩ = some (.int .u32 0) := hr2.cell 4
    have z4 := hr2.frozen 4
    have r5 : w2.cell? ⟨w.heap.size, 5, none⟩ = some (.int .i64 0) := hr2.cell 5
    have z5 := hr2.frozen 5
    have r6 : w2.cell? ⟨w.heap.size, 6, none⟩ = some (.string ⟨#[]⟩) := hr2.cell 6
    have z6 := hr2.frozen 6
    have r7 : w2.cell? ⟨w.heap.size, 7, none⟩ = some (.string ⟨#[]⟩) := hr2.cell 7
    have z7 := hr2.frozen 7
    have r8 : w2.cell? ⟨w.heap.size, 8, none⟩ = some (.slice none 0 0) := hr2.cell 8
    have z8 := hr2.frozen 8
    have r9 : w2.cell? ⟨w.heap.size, 9, none⟩ = some (.slice none 0 0) := hr2.cell 9
    have z9 := hr2.frozen 9
    have r10 : w2.cell? ⟨w.heap.size, 10, none⟩ = some (.slice none 0 0) := hr2.cell 10
    have z10 := hr2.frozen 10
    have a0 : w2.cell? ⟨(w.heap.size + 1), 0, none⟩ = some (.int .i64 12) := ha2.cell 0
    have b0 := ha2.frozen 0
    have a1 : w2.cell? ⟨(w.heap.size + 1), 1, none⟩ = some (.int .i64 0) := ha2.cell 1
    have b1 := ha2.frozen 1
    have a2 : w2.cell? ⟨(w.heap.size + 1), 2, none⟩ = some (.int .i64 0) := ha2.cell 2
    have b2 := ha2.frozen 2
    have a3 : w2.cell? ⟨(w.heap.size + 1), 3, none⟩ = some (.int .i64 0) := ha2.cell 3
    have b3 := ha2.frozen 3
    have a4 : w2.cell? ⟨(w.heap.size + 1), 4, none⟩ = some (.int .u32 0) := ha2.cell 4
    have b4 := ha2.frozen 4
    have a5 : w2.cell? ⟨(w.heap.size + 1), 5, none⟩ = some (.int .i64 0) := ha2.cell 5
    have b5 := ha2.frozen 5
    have a6 : w2.cell? ⟨(w.heap.size + 1), 6, none⟩ = some (.string ⟨#[]⟩) := ha2.cell 6
    have b6 := ha2.frozen 6
    have a7 : w2.cell? ⟨(w.heap.size + 1), 7, none⟩ = some (.string ⟨#[]⟩) := ha2.cell 7
    have b7 := ha2.frozen 7
    have a8 : w2.cell? ⟨(w.heap.size + 1), 8, none⟩ = some (.slice none 0 0) := ha2.cell 8
    have b8 := ha2.frozen 8
    have a9 : w2.cell? ⟨(w.heap.size + 1), 9, none⟩ = some (.slice none 0 0) := ha2.cell 9
    have b9 := ha2.frozen 9
    have a10 : w2.cell? ⟨(w.heap.size + 1), 10, none⟩ = some (.slice none 0 0) := ha2.cell 10
    have b10 := ha2.frozen 10
    have s1 := hr2.lt
    have s2 := ha2.lt
    go_wp2_with fail
    refine (HP.out _).mono ?_
    rintro e w3 ⟨rfl, rfl⟩
    go_wp2_with fail
    refine act_ret_new (hr2.far (p := ⟨w.heap.size + 1, 10, none⟩) (by simp) (.slice (some ⟨w2.heap.size, 0, none⟩) 1 1)) rfl rfl rfl rfl ?_
    intro V hV fV hsV
    have f1 := (Fr.refl (fun k => k = w.heap.size + 1) w2).setAt (w.heap.size + 1) 10 rfl (.slice (some ⟨w2.heap.size, 0, none⟩) 1 1)
    have hsW : w2.heap.size = V.heap.size := by rw [hsV]; simp [World.setCell]
    have hT := ((NxTo.after hb1 h2).side f1 (by omega) hZ hg).side fV (Nat.le_refl _) hZ hg
    refine ⟨{ a := { k := 12, cl := [⟨P, 1 + (u : Int) / 128⟩] }, cA := some ⟨w2.heap.size, 0, none⟩, cc := 1 }, rfl, rfl, ⟨Rd.nil, Rd.nil, (Rd.lit (xs := [.string P, .int .i64 (1 + (u : Int) / 128)]) rfl rfl hsW).mono (fun b _ hb => by omega), ?_⟩, hT.then_ ((Below.refl _ _).alloc (Nat.le_refl _) _)⟩
    have hs3 : P.size ≤ 140737488355328 := by omega
    exact ⟨by simp, by simp, by simp, by simp, by simp, by simp, Nat.zero_le _, Nat.zero_le _, by simp, by simp, by simp, by simp, by simp; omega⟩
  · have q : ((x : Int) / 16 % 2 == 1) = false := by simp; omega
    obtain rfl : R = ({ k := 12 }, l) := by rw [HR.out]; unfold oneS; rw [if_neg (by omega), if_neg (by omega), if_neg (by omega), if_neg (by omega), if_pos h15, if_neg h2]
    go_enter Try.func52, Try.ntmps52
    go_wp2_with fail
    refine act_res (r := w.heap.size) rfl rfl rfl ((Blk.new w 57 _).alloc _) ?_
    exact ⟨{ a := { k := 12 } }, rfl, rfl, ok_bare (by omega) (by omega), nx_two H.out _ _⟩

end Go.Proofs.Ytpbgcbpofhbgbaa

/- script.one, the rest: the acts of two bytes more. -/
namespace Go.Proofs.Ytpbgcbpofhbgbaa
open Go.RowKit

set_option maxRecDepth 100000 in
set_option maxHeartbeats 1000000 in
theorem one_13 (g : Nat) (Z : Nat → Prop) (x : Nat) (hx : x < 256) (h13 : x % 16 = 13) (l : List UInt8) (w : World) (h : NxAt w g Z l) (hZ : ∀ b, Z b → b < g) :
    Calls Try.prog 52 #[.int .i64 (x : Int), nxF g] w (OneTo w g Z (oneS x l)) := by
  have _hZ := hZ
  obtain ⟨R, hR⟩ : ∃ R, R = oneS x l := ⟨_, rfl⟩
  rw [← hR]
  have HR := Lib.hid hR
  clear hR
  have H := Lib.hid h
  have hg := h.lt
  clear h
  have n10 : ((x : Int) % 16 == 10) = false := by simp; omega
  have n11 : ((x : Int) % 16 == 11) = false := by simp; omega
  have n12 : ((x : Int) % 16 == 12) = false := by simp; omega
  have n13 : ((x : Int) % 16 == 13) = true := by simp; omega
  have n14 : ((x : Int) % 16 == 14) = false := by simp; omega
  have n15 : ((x : Int) % 16 == 15) = false := by simp; omega
  have hz := z_not hZ
  have hu := nx_lt l
  have HN := Lib.hid (fun W (hW : NxAt W g Z l) => next_any g Z l W hW hz)
  obtain rfl : R = ({ k := 8 + (x : Int) / 16 % 2, n := ((nx l).1 : Int) % 16, kl := [⟨((nx l).1 : Int) / 16, ((nx (nx l).2).1 : Int)⟩] }, (nx (nx l).2).2) := by rw [HR.out]; unfold oneS; rw [if_neg (by omega), if_neg (by omega), if_pos h13]
  clear HR
  generalize nx l = u at *
  obtain ⟨u, l1⟩ := u
  dsimp only at *

  have hv := nx_lt l1
  have HN2 := Lib.hid (fun W (hW : NxAt W g Z l1) => next_any g Z l1 W hW hz)
  generalize nx l1 = v at *
  obtain ⟨v, l2⟩ := v
  dsimp only at *

  have hb1 : Below w.heap.size w (w.alloc (.cells #[.int .i64 0, .int .i64 0, .int .i64 0, .int .i64 0, .int .u32 0, .int .i64 0, .string ⟨#[]⟩, .string ⟨#[]⟩, .slice none 0 0, .slice none 0 0, .slice none 0 0] 57)) := (by repeat (first | exact Below.refl _ _ | refine Below.alloc ?_ (by simp) _ | refine Below.setCell ?_ (by simp) _ | refine Below.drew ?_))
  have hr1 := Blk.new w 57 #[.int .i64 0, .int .i64 0, .int .i64 0, .int .i64 0, .int .u32 0, .int .i64 0, .string ⟨#[]⟩, .string ⟨#[]⟩, .slice none 0 0, .slice none 0 0, .slice none 0 0]
  go_enter Try.func52, Try.ntmps52
  go_wp2_with fail
  refine (HN.out _ (H.out.below hb1)).mono ?_
  rintro e w2 ⟨rfl, h2⟩
  have hr2 := hr1.fr h2.fr (by omega)
  go_wp2_with fail
  refine (HN2.out _ h2.at_).mono ?_
  rintro e w3 ⟨rfl, h3⟩
  have hr3 := hr2.fr h3.fr (by omega)
  have r0 : w3.cell? ⟨w.heap.size, 0, none⟩ = some (.int .i64 0) := hr3.cell 0
  have z0 := hr3.frozen 0
  have r1 : w3.cell? ⟨w.heap.size, 1, none⟩ = some (.int .i64 0) := hr3.cell 1
  have z1 := hr3.frozen 1
  have r2 : w3.cell? ⟨w.heap.size, 2, none⟩ = some (.int .i64 0) := hr3.cell 2
  have z2 := hr3.frozen 2
  have r3 : w3.cell? ⟨w.heap.size, 3, none⟩ = some (.int .i64 0) := hr3.cell 3
  have z3 := hr3.frozen 3
  have r4 : w3.cell? ⟨w.heap.size, 4, none⟩ = some (.int .u32 0) := hr3.cell 4
  have z4 := hr3.frozen 4
  have r5 : w3.cell? ⟨w.heap.size, 5, none⟩ = some (.int .i64 0) := hr3.cell 5
  have z5 := hr3.frozen 5
  have r6 : w3.cell? ⟨w.heap.size, 6, none⟩ = some (.string ⟨#[]⟩) := hr3.cell 6
  have z6 := hr3.frozen 6
  have r7 : w3.cell? ⟨w.heap.size, 7, none⟩ = some (.string ⟨#[]⟩) := hr3.cell 7
  have z7 := hr3.frozen 7
  have r8 : w3.cell? ⟨w.heap.size, 8, none⟩ = some (.slice none 0 0) := hr3.cell 8
  have z8 := hr3.frozen 8
  have r9 : w3.cell? ⟨w.heap.size, 9, none⟩ = some (.slice none 0 0) := hr3.cell 9
  have z9 := hr3.frozen 9
  have r10 : w3.cell? ⟨w.heap.size, 10, none⟩ = some (.slice none 0 0) := hr3.cell 10
  have z10 := hr3.frozen 10
  have s1 := hr3.lt
  go_wp2_with fail
  refine act_ret_new hr3 rfl rfl rfl rfl ?_
  intro V hV fV hsV
  have hT := ((NxTo.after hb1 h2).trans h3).side fV (Nat.le_refl _) hZ hg
  refine ⟨{ a := { k := 8 + (x : Int) / 16 % 2, n := (u : Int) % 16, kl := [⟨(u : Int) / 16, (v : Int)⟩] }, kA := some ⟨w3.heap.size, 0, none⟩, kc := 1 }, rfl, rfl, ⟨Rd.nil, (Rd.lit (xs := [.int .i64 ((u : Int) / 16), .int .i64 (v : Int)]) rfl rfl hsV.symm).mono (fun b _ hb => by omega), Rd.nil, ?_⟩, hT.then_ ((Below.refl _ _).alloc (Nat.le_refl _) _)⟩
  exact ⟨by dsimp only; omega, by simp, by dsimp only; omega, by simp, by simp, by simp, Nat.zero_le _, Nat.zero_le _, by simp, by simp, by simp, by simp; omega, by simp⟩

end Go.Proofs.Ytpbgcbpofhbgbaa

/- script.one at 12: what happens to frames. -/
namespace Go.Proofs.Ytpbgcbpofhbgbaa
open Go.RowKit

theorem u32_in {n : Int} (h : 0 ≤ n ∧ n < 4294967296) : IntKind.u32.wrap n = n := by
  simp [IntKind.wrap, IntKind.bits, IntKind.signed]
  omega
set_option maxRecDepth 100000 in
set_option maxHeartbeats 1000000 in
theorem one_12 (g : Nat) (Z : Nat → Prop) (x : Nat) (hx : x < 256) (h12 : x % 16 = 12) (l : List UInt8) (w : World) (h : NxAt w g Z l) (hZ : ∀ b, Z b → b < g) :
    Calls Try.prog 52 #[.int .i64 (x : Int), nxF g] w (OneTo w g Z (oneS x l)) := by
  have _hZ := hZ
  obtain ⟨R, hR⟩ : ∃ R, R = oneS x l := ⟨_, rfl⟩
  rw [← hR]
  have HR := Lib.hid hR
  clear hR
  have H := Lib.hid h
  have hg := h.lt
  clear h
  have n10 : ((x : Int) % 16 == 10) = false := by simp; omega
  have n11 : ((x : Int) % 16 == 11) = false := by simp; omega
  have n12 : ((x : Int) % 16 == 12) = true := by simp; omega
  have n13 : ((x : Int) % 16 == 13) = false := by simp; omega
  have n14 : ((x : Int) % 16 == 14) = false := by simp; omega
  have n15 : ((x : Int) % 16 == 15) = false := by simp; omega
  rcases (show x / 16 % 4 = 0 ∨ x / 16 % 4 = 1 ∨ x / 16 % 4 = 2 ∨ x / 16 % 4 = 3 by omega) with hq | hq | hq | hq
  · have hk : (if x / 16 % 4 = 0 then (5 : Int) else if x / 16 % 4 = 1 then 6 else 7) = 5 := by rw [hq]; rfl
    have hq2 : (x : Int) / 16 % 4 = 0 := by omega
    have hz := z_not hZ
    have hu := nx_lt l
    have HN := Lib.hid (fun W (hW : NxAt W g Z l) => next_any g Z l W hW hz)
    obtain rfl : R = ({ k := 5, s := 1 + (x : Int) / 128, n := ((nx l).1 : Int), b := 3 * ((nx l).1 : Int), m := 1 + 256 * ((nx (nx l).2).1 : Int) }, (nx (nx l).2).2) := by rw [HR.out]; unfold oneS; rw [if_neg (by omega), if_pos h12, hk]
    clear HR
    generalize nx l = u at *
    obtain ⟨u, l1⟩ := u
    dsimp only at *
    have hv := nx_lt l1
    have HN2 := Lib.hid (fun W (hW : NxAt W g Z l1) => next_any g Z l1 W hW hz)
    generalize nx l1 = v at *
    obtain ⟨v, l2⟩ := v
    dsimp only at *
    have hb1 : Below w.heap.size w ((w.alloc (.cells #[.int .i64 0, .int .i64 0, .int .i64 0, .int .i64 0, .int .u32 0, .int .i64 0, .string ⟨#[]⟩, .string ⟨#[]⟩, .slice none 0 0, .slice none 0 0, .slice none 0 0] 57)).alloc (.cells #[.int .i64 5, .int .i64 (1 + (x : Int) / 128), .int .i64 0, .int .i64 0, .int .u32 0, .int .i64 0, .string ⟨#[]⟩, .string ⟨#[]⟩, .slice none 0 0, .slice none 0 0, .slice none 0 0] 57)) := (by repeat (first | exact Below.refl _ _ | refine Below.alloc ?_ (by simp) _ | refine Below.setCell ?_ (by simp) _ | refine Below.drew ?_))
    have hr1 := (Blk.new w 57 #[.int .i64 0, .int .i64 0, .int .i64 0, .int .i64 0, .int .u32 0, .int .i64 0, .string ⟨#[]⟩, .string ⟨#[]⟩, .slice none 0 0, .slice none 0 0, .slice none 0 0]).alloc (.cells #[.int .i64 5, .int .i64 (1 + (x : Int) / 128), .int .i64 0, .int .i64 0, .int .u32 0, .int .i64 0, .string ⟨#[]⟩, .string ⟨#[]⟩, .slice none 0 0, .slice none 0 0, .slice none 0 0] 57)
    have ha1 := Blk.new (w.alloc (.cells #[.int .i64 0, .int .i64 0, .int .i64 0, .int .i64 0, .int .u32 0, .int .i64 0, .string ⟨#[]⟩, .string ⟨#[]⟩, .slice none 0 0, .slice none 0 0, .slice none 0 0] 57)) 57 #[.int .i64 5, .int .i64 (1 + (x : Int) / 128), .int .i64 0, .int .i64 0, .int .u32 0, .int .i64 0, .string ⟨#[]⟩, .string ⟨#[]⟩, .slice none 0 0, .slice none 0 0, .slice none 0 0]
    rw [World.size_alloc] at ha1
    have hw1 : IntKind.i64.wrap (3 * (u : Int)) = 3 * (u : Int) := IntWalk.i64_in _ (by omega)
    have hidx : ∀ W, (Instr.index 128 (.agg #[.int .i64 5, .int .i64 6, .int .i64 7, .int .i64 7]) (.int .i64 0)).run Try.prog W = .ok (.int .i64 5) W := fun W => by kernel_rfl
    have hw2 : IntKind.u32.wrap (v : Int) = (v : Int) := u32_in (by omega)
    have hw3 : IntKind.u32.wrap (256 * (v : Int)) = 256 * (v : Int) := u32_in (by omega)
    have hw4 : IntKind.u32.wrap (1 + 256 * (v : Int)) = 1 + 256 * (v : Int) := u32_in (by omega)
    clear hk
    go_enter Try.func52, Try.ntmps52
    go_wp2_with fail
    refine (HN.out _ (H.out.below hb1)).mono ?_
    rintro e w2 ⟨rfl, h2⟩
    have hr2 := hr1.fr h2.fr (by omega)
    have ha2 := (ha1.fr h2.fr (by omega)).set_ 2 (.int .i64 (u : Int))
    simp only [List.setIfInBounds_toArray, List.set_cons_zero, List.set_cons_succ] at ha2
    have hr3 := hr2.far (p := ⟨w.heap.size + 1, 2, none⟩) (by simp) (.int .i64 (u : Int))
    have f2 := (Fr.refl (fun k => k = w.heap.size + 1) w2).setAt (w.heap.size + 1) 2 rfl (.int .i64 (u : Int))
    have x2 : w2.cell? ⟨w.heap.size + 1, 2, none⟩ = some (.int .i64 0) := (ha1.fr h2.fr (by omega)).cell 2
    have y2 : w2.frozen? ⟨w.heap.size + 1, 2, none⟩ = false := (ha1.fr h2.fr (by omega)).frozen 2
    have hT2 := (NxTo.after hb1 h2).side f2 (by omega) hZ hg
    go_wp2_with fail
    generalize w2.setCell ⟨w.heap.size + 1, 2, none⟩ (.int .i64 (u : Int)) = w3 at *
    have e2 : w3.cell? ⟨w.heap.size + 1, 2, none⟩ = some (.int .i64 (u : Int)) := ha2.cell 2
    go_region_with (go_at_call 51; refine (HN2.out w3.drew (hT2.at_.below (Below.refl _ _).drew)).mono ?_; rintro e w4 ⟨rfl, h4⟩; have ha4 := ha2.drew.fr h4.fr (by omega); have hr4 := hr3.drew.fr h4.fr (by omega); have hT4 := (hT2.then_ (Below.refl _ _).drew).trans h4; have g2 : w4.cell? ⟨w.heap.size + 1, 2, none⟩ = some (.int .i64 (u : Int)) := ha4.cell 2; have g3 : w4.cell? ⟨w.heap.size + 1, 3, none⟩ = some (.int .i64 0) := ha4.cell 3; have g4 : w4.cell? ⟨w.heap.size + 1, 4, none⟩ = some (.int .u32 0) := ha4.cell 4; have k3 := ha4.frozen 3; have k4 := ha4.frozen 4)
    all_goals
      have ha5 := (ha4.set_ 3 (.int .i64 (3 * (u : Int)))).set_ 4 (.int .u32 (1 + 256 * (v : Int)))
      simp only [List.setIfInBounds_toArray, List.set_cons_zero, List.set_cons_succ] at ha5
      have hr5 := (hr4.far (p := ⟨w.heap.size + 1, 3, none⟩) (by simp) (.int .i64 (3 * (u : Int)))).far (p := ⟨w.heap.size + 1, 4, none⟩) (by simp) (.int .u32 (1 + 256 * (v : Int)))
      have f5 := ((Fr.refl (fun k => k = w.heap.size + 1) w4).setAt (w.heap.size + 1) 3 rfl (.int .i64 (3 * (u : Int)))).setAt (w.heap.size + 1) 4 rfl (.int .u32 (1 + 256 * (v : Int)))
      have hT5 := hT4.side f5 (by omega) hZ hg
      generalize (w4.setCell ⟨w.heap.size + 1, 3, none⟩ (.int .i64 (3 * (u : Int)))).setCell ⟨w.heap.size + 1, 4, none⟩ (.int .u32 (1 + 256 * (v : Int))) = w5 at *
      have r0 : w5.cell? ⟨w.heap.size, 0, none⟩ = some (.int .i64 0) := hr5.cell 0
      have z0 := hr5.frozen 0
      have r1 : w5.cell? ⟨w.heap.size, 1, none⟩ = some (.int .i64 0) := hr5.cell 1
      have z1 := hr5.frozen 1
      have r2 : w5.cell? ⟨w.heap.size, 2, none⟩ = some (.int .i64 0) := hr5.cell 2
      have z2 := hr5.frozen 2
      have r3 : w5.cell? ⟨w.heap.size, 3, none⟩ = some (.int .i64 0) := hr5.cell 3
      have z3 := hr5.frozen 3
      have r4 : w5.cell? ⟨w.heap.size, 4, none⟩ = some (.int .u32 0) := hr5.cell 4
      have z4 := hr5.frozen 4
      have r5 : w5.cell? ⟨w.heap.size, 5, none⟩ = some (.int .i64 0) := hr5.cell 5
      have z5 := hr5.frozen 5
      have r6 : w5.cell? ⟨w.heap.size, 6, none⟩ = some (.string ⟨#[]⟩) := hr5.cell 6
      have z6 := hr5.frozen 6
      have r7 : w5.cell? ⟨w.heap.size, 7, none⟩ = some (.string ⟨#[]⟩) := hr5.cell 7
      have z7 := hr5.frozen 7
      have r8 : w5.cell? ⟨w.heap.size, 8, none⟩ = some (.slice none 0 0) := hr5.cell 8
      have z8 := hr5.frozen 8
      have r9 : w5.cell? ⟨w.heap.size, 9, none⟩ = some (.slice none 0 0) := hr5.cell 9
      have z9 := hr5.frozen 9
      have r10 : w5.cell? ⟨w.heap.size, 10, none⟩ = some (.slice none 0 0) := hr5.cell 10
      have z10 := hr5.frozen 10
      have a0 : w5.cell? ⟨(w.heap.size + 1), 0, none⟩ = some (.int .i64 5) := ha5.cell 0
      have b0 := ha5.frozen 0
      have a1 : w5.cell? ⟨(w.heap.size + 1), 1, none⟩ = some (.int .i64 (1 + (x : Int) / 128)) := ha5.cell 1
      have b1 := ha5.frozen 1
      have a2 : w5.cell? ⟨(w.heap.size + 1), 2, none⟩ = some (.int .i64 (u : Int)) := ha5.cell 2
      have b2 := ha5.frozen 2
      have a3 : w5.cell? ⟨(w.heap.size + 1), 3, none⟩ = some (.int .i64 (3 * (u : Int))) := ha5.cell 3
      have b3 := ha5.frozen 3
      have a4 : w5.cell? ⟨(w.heap.size + 1), 4, none⟩ = some (.int .u32 (1 + 256 * (v : Int))) := ha5.cell 4
      have b4 := ha5.frozen 4
      have a5 : w5.cell? ⟨(w.heap.size + 1), 5, none⟩ = some (.int .i64 0) := ha5.cell 5
      have b5 := ha5.frozen 5
      have a6 : w5.cell? ⟨(w.heap.size + 1), 6, none⟩ = some (.string ⟨#[]⟩) := ha5.cell 6
      have b6 := ha5.frozen 6
      have a7 : w5.cell? ⟨(w.heap.size + 1), 7, none⟩ = some (.string ⟨#[]⟩) := ha5.cell 7
      have b7 := ha5.frozen 7
      have a8 : w5.cell? ⟨(w.heap.size + 1), 8, none⟩ = some (.slice none 0 0) := ha5.cell 8
      have b8 := ha5.frozen 8
      have a9 : w5.cell? ⟨(w.heap.size + 1), 9, none⟩ = some (.slice none 0 0) := ha5.cell 9
      have b9 := ha5.frozen 9
      have a10 : w5.cell? ⟨(w.heap.size + 1), 10, none⟩ = some (.slice none 0 0) := ha5.cell 10
      have b10 := ha5.frozen 10
      go_wp2_with fail
      refine act_ret hr5 rfl rfl rfl rfl ?_
      intro V hV fV
      exact ⟨{ a := { k := 5, s := 1 + (x : Int) / 128, n := (u : Int), b := 3 * (u : Int), m := 1 + 256 * (v : Int) } }, rfl, rfl, ⟨Rd.nil, Rd.nil, Rd.nil, ⟨by simp, by dsimp only; omega, by dsimp only; omega, by dsimp only; omega, by dsimp only; omega, by simp, Nat.zero_le _, Nat.zero_le _, by simp, by simp, by simp, by simp, by simp⟩⟩, hT5.side fV (Nat.le_refl _) hZ hg⟩

  · have hk : (if x / 16 % 4 = 0 then (5 : Int) else if x / 16 % 4 = 1 then 6 else 7) = 6 := by rw [hq]; rfl
    have hq2 : (x : Int) / 16 % 4 = 1 := by omega
    have hz := z_not hZ
    have hu := nx_lt l
    have HN := Lib.hid (fun W (hW : NxAt W g Z l) => next_any g Z l W hW hz)
    obtain rfl : R = ({ k := 6, s := 1 + (x : Int) / 128, n := ((nx l).1 : Int), b := 3 * ((nx l).1 : Int), m := 1 + 256 * ((nx (nx l).2).1 : Int) }, (nx (nx l).2).2) := by rw [HR.out]; unfold oneS; rw [if_neg (by omega), if_pos h12, hk]
    clear HR
    generalize nx l = u at *
    obtain ⟨u, l1⟩ := u
    dsimp only at *
    have hv := nx_lt l1
    have HN2 := Lib.hid (fun W (hW : NxAt W g Z l1) => next_any g Z l1 W hW hz)
    generalize nx l1 = v at *
    obtain ⟨v, l2⟩ := v
    dsimp only at *
    have hb1 : Below w.heap.size w ((w.alloc (.cells #[.int .i64 0, .int .i64 0, .int .i64 0, .int .i64 0, .int .u32 0, .int .i64 0, .string ⟨#[]⟩, .string ⟨#[]⟩, .slice none 0 0, .slice none 0 0, .slice none 0 0] 57)).alloc (.cells #[.int .i64 6, .int .i64 (1 + (x : Int) / 128), .int .i64 0, .int .i64 0, .int .u32 0, .int .i64 0, .string ⟨#[]⟩, .string ⟨#[]⟩, .slice none 0 0, .slice none 0 0, .slice none 0 0] 57)) := (by repeat (first | exact Below.refl _ _ | refine Below.alloc ?_ (by simp) _ | refine Below.setCell ?_ (by simp) _ | refine Below.drew ?_))
    have hr1 := (Blk.new w 57 #[.int .i64 0, .int .i64 0, .int .i64 0, .int .i64 0, .int .u32 0, .int .i64 0, .string ⟨#[]⟩, .string ⟨#[]⟩, .slice none 0 0, .slice none 0 0, .slice none 0 0]).alloc (.cells #[.int .i64 6, .int .i64 (1 + (x : Int) / 128), .int .i64 0, .int .i64 0, .int .u32 0, .int .i64 0, .string ⟨#[]⟩, .string ⟨#[]⟩, .slice none 0 0, .slice none 0 0, .slice none 0 0] 57)
    have ha1 := Blk.new (w.alloc (.cells #[.int .i64 0, .int .i64 0, .int .i64 0, .int .i64 0, .int .u32 0, .int .i64 0, .string ⟨#[]⟩, .string ⟨#[]⟩, .slice none 0 0, .slice none 0 0, .slice none 0 0] 57)) 57 #[.int .i64 6, .int .i64 (1 + (x : Int) / 128), .int .i64 0, .int .i64 0, .int .u32 0, .int .i64 0, .string ⟨#[]⟩, .string ⟨#[]⟩, .slice none 0 0, .slice none 0 0, .slice none 0 0]
    rw [World.size_alloc] at ha1
    have hw1 : IntKind.i64.wrap (3 * (u : Int)) = 3 * (u : Int) := IntWalk.i64_in _ (by omega)
    have hidx : ∀ W, (Instr.index 128 (.agg #[.int .i64 5, .int .i64 6, .int .i64 7, .int .i64 7]) (.int .i64 1)).run Try.prog W = .ok (.int .i64 6) W := fun W => by kernel_rfl
    have hw2 : IntKind.u32.wrap (v : Int) = (v : Int) := u32_in (by omega)
    have hw3 : IntKind.u32.wrap (256 * (v : Int)) = 256 * (v : Int) := u32_in (by omega)
    have hw4 : IntKind.u32.wrap (1 + 256 * (v : Int)) = 1 + 256 * (v : Int) := u32_in (by omega)
    clear hk
    go_enter Try.func52, Try.ntmps52
    go_wp2_with fail
    refine (HN.out _ (H.out.below hb1)).mono ?_
    rintro e w2 ⟨rfl, h2⟩
    have hr2 := hr1.fr h2.fr (by omega)
    have ha2 := (ha1.fr h2.fr (by omega)).set_ 2 (.int .i64 (u : Int))
    simp only [List.setIfInBounds_toArray, List.set_cons_zero, List.set_cons_succ] at ha2
    have hr3 := hr2.far (p := ⟨w.heap.size + 1, 2, none⟩) (by simp) (.int .i64 (u : Int))
    have f2 := (Fr.refl (fun k => k = w.heap.size + 1) w2).setAt (w.heap.size + 1) 2 rfl (.int .i64 (u : Int))
    have x2 : w2.cell? ⟨w.heap.size + 1, 2, none⟩ = some (.int .i64 0) := (ha1.fr h2.fr (by omega)).cell 2
    have y2 : w2.frozen? ⟨w.heap.size + 1, 2, none⟩ = false := (ha1.fr h2.fr (by omega)).frozen 2
    have hT2 := (NxTo.after hb1 h2).side f2 (by omega) hZ hg
    go_wp2_with fail
    generalize w2.setCell ⟨w.heap.size + 1, 2, none⟩ (.int .i64 (u : Int)) = w3 at *
    have e2 : w3.cell? ⟨w.heap.size + 1, 2, none⟩ = some (.int .i64 (u : Int)) := ha2.cell 2
    go_region_with (go_at_call 51; refine (HN2.out w3.drew (hT2.at_.below (Below.refl _ _).drew)).mono ?_; rintro e w4 ⟨rfl, h4⟩; have ha4 := ha2.drew.fr h4.fr (by omega); have hr4 := hr3.drew.fr h4.fr (by omega); have hT4 := (hT2.then_ (Below.refl _ _).drew).trans h4; have g2 : w4.cell? ⟨w.heap.size + 1, 2, none⟩ = some (.int .i64 (u : Int)) := ha4.cell 2; have g3 : w4.cell? ⟨w.heap.size + 1, 3, none⟩ = some (.int .i64 0) := ha4.cell 3; have g4 : w4.cell? ⟨w.heap.size + 1, 4, none⟩ = some (.int .u32 0) := ha4.cell 4; have k3 := ha4.frozen 3; have k4 := ha4.frozen 4)
    all_goals
      have ha5 := (ha4.set_ 3 (.int .i64 (3 * (u : Int)))).set_ 4 (.int .u32 (1 + 256 * (v : Int)))
      simp only [List.setIfInBounds_toArray, List.set_cons_zero, List.set_cons_succ] at ha5
      have hr5 := (hr4.far (p := ⟨w.heap.size + 1, 3, none⟩) (by simp) (.int .i64 (3 * (u : Int)))).far (p := ⟨w.heap.size + 1, 4, none⟩) (by simp) (.int .u32 (1 + 256 * (v : Int)))
      have f5 := ((Fr.refl (fun k => k = w.heap.size + 1) w4).setAt (w.heap.size + 1) 3 rfl (.int .i64 (3 * (u : Int)))).setAt (w.heap.size + 1) 4 rfl (.int .u32 (1 + 256 * (v : Int)))
      have hT5 := hT4.side f5 (by omega) hZ hg
      generalize (w4.setCell ⟨w.heap.size + 1, 3, none⟩ (.int .i64 (3 * (u : Int)))).setCell ⟨w.heap.size + 1, 4, none⟩ (.int .u32 (1 + 256 * (v : Int))) = w5 at *
      have r0 : w5.cell? ⟨w.heap.size, 0, none⟩ = some (.int .i64 0) := hr5.cell 0
      have z0 := hr5.frozen 0
      have r1 : w5.cell? ⟨w.heap.size, 1, none⟩ = some (.int .i64 0) := hr5.cell 1
      have z1 := hr5.frozen 1
      have r2 : w5.cell? ⟨w.heap.size, 2, none⟩ = some (.int .i64 0) := hr5.cell 2
      have z2 := hr5.frozen 2
      have r3 : w5.cell? ⟨w.heap.size, 3, none⟩ = some (.int .i64 0) := hr5.cell 3
      have z3 := hr5.frozen 3
      have r4 : w5.cell? ⟨w.heap.size, 4, none⟩ = some (.int .u32 0) := hr5.cell 4
      have z4 := hr5.frozen 4
      have r5 : w5.cell? ⟨w.heap.size, 5, none⟩ = some (.int .i64 0) := hr5.cell 5
      have z5 := hr5.frozen 5
      have r6 : w5.cell? ⟨w.heap.size, 6, none⟩ = some (.string ⟨#[]⟩) := hr5.cell 6
      have z6 := hr5.frozen 6
      have r7 : w5.cell? ⟨w.heap.size, 7, none⟩ = some (.string ⟨#[]⟩) := hr5.cell 7
      have z7 := hr5.frozen 7
      have r8 : w5.cell? ⟨w.heap.size, 8, none⟩ = some (.slice none 0 0) := hr5.cell 8
      have z8 := hr5.frozen 8
      have r9 : w5.cell? ⟨w.heap.size, 9, none⟩ = some (.slice none 0 0) := hr5.cell 9
      have z9 := hr5.frozen 9
      have r10 : w5.cell? ⟨w.heap.size, 10, none⟩ = some (.slice none 0 0) := hr5.cell 10
      have z10 := hr5.frozen 10
      have a0 : w5.cell? ⟨(w.heap.size + 1), 0, none⟩ = some (.int .i64 6) := ha5.cell 0
      have b0 := ha5.frozen 0
      have a1 : w5.cell? ⟨(w.heap.size + 1), 1, none⟩ = some (.int .i64 (1 + (x : Int) / 128)) := ha5.cell 1
      have b1 := ha5.frozen 1
      have a2 : w5.cell? ⟨(w.heap.size + 1), 2, none⟩ = some (.int .i64 (u : Int)) := ha5.cell 2
      have b2 := ha5.frozen 2
      have a3 : w5.cell? ⟨(w.heap.size + 1), 3, none⟩ = some (.int .i64 (3 * (u : Int))) := ha5.cell 3
      have b3 := ha5.frozen 3
      have a4 : w5.cell? ⟨(w.heap.size + 1), 4, none⟩ = some (.int .u32 (1 + 256 * (v : Int))) := ha5.cell 4
      have b4 := ha5.frozen 4
      have a5 : w5.cell? ⟨(w.heap.size + 1), 5, none⟩ = some (.int .i64 0) := ha5.cell 5
      have b5 := ha5.frozen 5
      have a6 : w5.cell? ⟨(w.heap.size + 1), 6, none⟩ = some (.string ⟨#[]⟩) := ha5.cell 6
      have b6 := ha5.frozen 6
      have a7 : w5.cell? ⟨(w.heap.size + 1), 7, none⟩ = some (.string ⟨#[]⟩) := ha5.cell 7
      have b7 := ha5.frozen 7
      have a8 : w5.cell? ⟨(w.heap.size + 1), 8, none⟩ = some (.slice none 0 0) := ha5.cell 8
      have b8 := ha5.frozen 8
      have a9 : w5.cell? ⟨(w.heap.size + 1), 9, none⟩ = some (.slice none 0 0) := ha5.cell 9
      have b9 := ha5.frozen 9
      have a10 : w5.cell? ⟨(w.heap.size + 1), 10, none⟩ = some (.slice none 0 0) := ha5.cell 10
      have b10 := ha5.frozen 10
      go_wp2_with fail
      refine act_ret hr5 rfl rfl rfl rfl ?_
      intro V hV fV
      exact ⟨{ a := { k := 6, s := 1 + (x : Int) / 128, n := (u : Int), b := 3 * (u : Int), m := 1 + 256 * (v : Int) } }, rfl, rfl, ⟨Rd.nil, Rd.nil, Rd.nil, ⟨by simp, by dsimp only; omega, by dsimp only; omega, by dsimp only; omega, by dsimp only; omega, by simp, Nat.zero_le _, Nat.zero_le _, by simp, by simp, by simp, by simp, by simp⟩⟩, hT5.side fV (Nat.le_refl _) hZ hg⟩

  · have hk : (if x / 16 % 4 = 0 then (5 : Int) else if x / 16 % 4 = 1 then 6 else 7) = 7 := by rw [hq]; rfl
    have hq2 : (x : Int) / 16 % 4 = 2 := by omega
    have hz := z_not hZ
    have hu := nx_lt l
    have HN := Lib.hid (fun W (hW : NxAt W g Z l) => next_any g Z l W hW hz)
    obtain rfl : R = ({ k := 7, s := 1 + (x : Int) / 128, n := ((nx l).1 : Int), b := 3 * ((nx l).1 : Int), m := 1 + 256 * ((nx (nx l).2).1 : Int) }, (nx (nx l).2).2) := by rw [HR.out]; unfold oneS; rw [if_neg (by omega), if_pos h12, hk]
    clear HR
    generalize nx l = u at *
    obtain ⟨u, l1⟩ := u
    dsimp only at *
    have hv := nx_lt l1
    have HN2 := Lib.hid (fun W (hW : NxAt W g Z l1) => next_any g Z l1 W hW hz)
    generalize nx l1 = v at *
    obtain ⟨v, l2⟩ := v
    dsimp only at *
    have hb1 : Below w.heap.size w ((w.alloc (.cells #[.int .i64 0, .int .i64 0, .int .i64 0, .int .i64 0, .int .u32 0, .int .i64 0, .string ⟨#[]⟩, .string ⟨#[]⟩, .slice none 0 0, .slice none 0 0, .slice none 0 0] 57)).alloc (.cells #[.int .i64 7, .int .i64 (1 + (x : Int) / 128), .int .i64 0, .int .i64 0, .int .u32 0, .int .i64 0, .string ⟨#[]⟩, .string ⟨#[]⟩, .slice none 0 0, .slice none 0 0, .slice none 0 0] 57)) := (by repeat (first | exact Below.refl _ _ | refine Below.alloc ?_ (by simp) _ | refine Below.setCell ?_ (by simp) _ | refine Below.drew ?_))
    have hr1 := (Blk.new w 57 #[.int .i64 0, .int .i64 0, .int .i64 0, .int .i64 0, .int .u32 0, .int .i64 0, .string ⟨#[]⟩, .string ⟨#[]⟩, .slice none 0 0, .slice none 0 0, .slice none 0 0]).alloc (.cells #[.int .i64 7, .int .i64 (1 + (x : Int) / 128), .int .i64 0, .int .i64 0, .int .u32 0, .int .i64 0, .string ⟨#[]⟩, .string ⟨#[]⟩, .slice none 0 0, .slice none 0 0, .slice none 0 0] 57)
    have ha1 := Blk.new (w.alloc (.cells #[.int .i64 0, .int .i64 0, .int .i64 0, .int .i64 0, .int .u32 0, .int .i64 0, .string ⟨#[]⟩, .string ⟨#[]⟩, .slice none 0 0, .slice none 0 0, .slice none 0 0] 57)) 57 #[.int .i64 7, .int .i64 (1 + (x : Int) / 128), .int .i64 0, .int .i64 0, .int .u32 0, .int .i64 0, .string ⟨#[]⟩, .string ⟨#[]⟩, .slice none 0 0, .slice none 0 0, .slice none 0 0]
    rw [World.size_alloc] at ha1
    have hw1 : IntKind.i64.wrap (3 * (u : Int)) = 3 * (u : Int) := IntWalk.i64_in _ (by omega)
    have hidx : ∀ W, (Instr.index 128 (.agg #[.int .i64 5, .int .i64 6, .int .i64 7, .int .i64 7]) (.int .i64 2)).run Try.prog W = .ok (.int .i64 7) W := fun W => by kernel_rfl
    have hw2 : IntKind.u32.wrap (v : Int) = (v : Int) := u32_in (by omega)
    have hw3 : IntKind.u32.wrap (256 * (v : Int)) = 256 * (v : Int) := u32_in (by omega)
    have hw4 : IntKind.u32.wrap (1 + 256 * (v : Int)) = 1 + 256 * (v : Int) := u32_in (by omega)
    clear hk
    go_enter Try.func52, Try.ntmps52
    go_wp2_with fail
    refine (HN.out _ (H.out.below hb1)).mono ?_
    rintro e w2 ⟨rfl, h2⟩
    have hr2 := hr1.fr h2.fr (by omega)
    have ha2 := (ha1.fr h2.fr (by omega)).set_ 2 (.int .i64 (u : Int))
    simp only [List.setIfInBounds_toArray, List.set_cons_zero, List.set_cons_succ] at ha2
    have hr3 := hr2.far (p := ⟨w.heap.size + 1, 2, none⟩) (by simp) (.int .i64 (u : Int))
    have f2 := (Fr.refl (fun k => k = w.heap.size + 1) w2).setAt (w.heap.size + 1) 2 rfl (.int .i64 (u : Int))
    have x2 : w2.cell? ⟨w.heap.size + 1, 2, none⟩ = some (.int .i64 0) := (ha1.fr h2.fr (by omega)).cell 2
    have y2 : w2.frozen? ⟨w.heap.size + 1, 2, none⟩ = false := (ha1.fr h2.fr (by omega)).frozen 2
    have hT2 := (NxTo.after hb1 h2).side f2 (by omega) hZ hg
    go_wp2_with fail
    generalize w2.setCell ⟨w.heap.size + 1, 2, none⟩ (.int .i64 (u : Int)) = w3 at *
    have e2 : w3.cell? ⟨w.heap.size + 1, 2, none⟩ = some (.int .i64 (u : Int)) := ha2.cell 2
    go_region_with (go_at_call 51; refine (HN2.out w3.drew (hT2.at_.below (Below.refl _ _).drew)).mono ?_; rintro e w4 ⟨rfl, h4⟩; have ha4 := ha2.drew.fr h4.fr (by omega); have hr4 := hr3.drew.fr h4.fr (by omega); have hT4 := (hT2.then_ (Below.refl _ _).drew).trans h4; have g2 : w4.cell? ⟨w.heap.size + 1, 2, none⟩ = some (.int .i64 (u : Int)) := ha4.cell 2; have g3 : w4.cell? ⟨w.heap.size + 1, 3, none⟩ = some (.int .i64 0) := ha4.cell 3; have g4 : w4.cell? ⟨w.heap.size + 1, 4, none⟩ = some (.int .u32 0) := ha4.cell 4; have k3 := ha4.frozen 3; have k4 := ha4.frozen 4)
    all_goals
      have ha5 := (ha4.set_ 3 (.int .i64 (3 * (u : Int)))).set_ 4 (.int .u32 (1 + 256 * (v : Int)))
      simp only [List.setIfInBounds_toArray, List.set_cons_zero, List.set_cons_succ] at ha5
      have hr5 := (hr4.far (p := ⟨w.heap.size + 1, 3, none⟩) (by simp) (.int .i64 (3 * (u : Int)))).far (p := ⟨w.heap.size + 1, 4, none⟩) (by simp) (.int .u32 (1 + 256 * (v : Int)))
      have f5 := ((Fr.refl (fun k => k = w.heap.size + 1) w4).setAt (w.heap.size + 1) 3 rfl (.int .i64 (3 * (u : Int)))).setAt (w.heap.size + 1) 4 rfl (.int .u32 (1 + 256 * (v : Int)))
      have hT5 := hT4.side f5 (by omega) hZ hg
      generalize (w4.setCell ⟨w.heap.size + 1, 3, none⟩ (.int .i64 (3 * (u : Int)))).setCell ⟨w.heap.size + 1, 4, none⟩ (.int .u32 (1 + 256 * (v : Int))) = w5 at *
      have r0 : w5.cell? ⟨w.heap.size, 0, none⟩ = some (.int .i64 0) := hr5.cell 0
      have z0 := hr5.frozen 0
      have r1 : w5.cell? ⟨w.heap.size, 1, none⟩ = some (.int .i64 0) := hr5.cell 1
      have z1 := hr5.frozen 1
      have r2 : w5.cell? ⟨w.heap.size, 2, none⟩ = some (.int .i64 0) := hr5.cell 2
      have z2 := hr5.frozen 2
      have r3 : w5.cell? ⟨w.heap.size, 3, none⟩ = some (.int .i64 0) := hr5.cell 3
      have z3 := hr5.frozen 3
      have r4 : w5.cell? ⟨w.heap.size, 4, none⟩ = some (.int .u32 0) := hr5.cell 4
      have z4 := hr5.frozen 4
      have r5 : w5.cell? ⟨w.heap.size, 5, none⟩ = some (.int .i64 0) := hr5.cell 5
      have z5 := hr5.frozen 5
      have r6 : w5.cell? ⟨w.heap.size, 6, none⟩ = some (.string ⟨#[]⟩) := hr5.cell 6
      have z6 := hr5.frozen 6
      have r7 : w5.cell? ⟨w.heap.size, 7, none⟩ = some (.string ⟨#[]⟩) := hr5.cell 7
      have z7 := hr5.frozen 7
      have r8 : w5.cell? ⟨w.heap.size, 8, none⟩ = some (.slice none 0 0) := hr5.cell 8
      have z8 := hr5.frozen 8
      have r9 : w5.cell? ⟨w.heap.size, 9, none⟩ = some (.slice none 0 0) := hr5.cell 9
      have z9 := hr5.frozen 9
      have r10 : w5.cell? ⟨w.heap.size, 10, none⟩ = some (.slice none 0 0) := hr5.cell 10
      have z10 := hr5.frozen 10
      have a0 : w5.cell? ⟨(w.heap.size + 1), 0, none⟩ = some (.int .i64 7) := ha5.cell 0
      have b0 := ha5.frozen 0
      have a1 : w5.cell? ⟨(w.heap.size + 1), 1, none⟩ = some (.int .i64 (1 + (x : Int) / 128)) := ha5.cell 1
      have b1 := ha5.frozen 1
      have a2 : w5.cell? ⟨(w.heap.size + 1), 2, none⟩ = some (.int .i64 (u : Int)) := ha5.cell 2
      have b2 := ha5.frozen 2
      have a3 : w5.cell? ⟨(w.heap.size + 1), 3, none⟩ = some (.int .i64 (3 * (u : Int))) := ha5.cell 3
      have b3 := ha5.frozen 3
      have a4 : w5.cell? ⟨(w.heap.size + 1), 4, none⟩ = some (.int .u32 (1 + 256 * (v : Int))) := ha5.cell 4
      have b4 := ha5.frozen 4
      have a5 : w5.cell? ⟨(w.heap.size + 1), 5, none⟩ = some (.int .i64 0) := ha5.cell 5
      have b5 := ha5.frozen 5
      have a6 : w5.cell? ⟨(w.heap.size + 1), 6, none⟩ = some (.string ⟨#[]⟩) := ha5.cell 6
      have b6 := ha5.frozen 6
      have a7 : w5.cell? ⟨(w.heap.size + 1), 7, none⟩ = some (.string ⟨#[]⟩) := ha5.cell 7
      have b7 := ha5.frozen 7
      have a8 : w5.cell? ⟨(w.heap.size + 1), 8, none⟩ = some (.slice none 0 0) := ha5.cell 8
      have b8 := ha5.frozen 8
      have a9 : w5.cell? ⟨(w.heap.size + 1), 9, none⟩ = some (.slice none 0 0) := ha5.cell 9
      have b9 := ha5.frozen 9
      have a10 : w5.cell? ⟨(w.heap.size + 1), 10, none⟩ = some (.slice none 0 0) := ha5.cell 10
      have b10 := ha5.frozen 10
      go_wp2_with fail
      refine act_ret hr5 rfl rfl rfl rfl ?_
      intro V hV fV
      exact ⟨{ a := { k := 7, s := 1 + (x : Int) / 128, n := (u : Int), b := 3 * (u : Int), m := 1 + 256 * (v : Int) } }, rfl, rfl, ⟨Rd.nil, Rd.nil, Rd.nil, ⟨by simp, by dsimp only; omega, by dsimp only; omega, by dsimp only; omega, by dsimp only; omega, by simp, Nat.zero_le _, Nat.zero_le _, by simp, by simp, by simp, by simp, by simp⟩⟩, hT5.side fV (Nat.le_refl _) hZ hg⟩

  · have hk : (if x / 16 % 4 = 0 then (5 : Int) else if x / 16 % 4 = 1 then 6 else 7) = 7 := by rw [hq]; rfl
    have hq2 : (x : Int) / 16 % 4 = 3 := by omega
    have hz := z_not hZ
    have hu := nx_lt l
    have HN := Lib.hid (fun W (hW : NxAt W g Z l) => next_any g Z l W hW hz)
    obtain rfl : R = ({ k := 7, s := 1 + (x : Int) / 128, n := ((nx l).1 : Int), b := 3 * ((nx l).1 : Int), m := 1 + 256 * ((nx (nx l).2).1 : Int) }, (nx (nx l).2).2) := by rw [HR.out]; unfold oneS; rw [if_neg (by omega), if_pos h12, hk]
    clear HR
    generalize nx l = u at *
    obtain ⟨u, l1⟩ := u
    dsimp only at *
    have hv := nx_lt l1
    have HN2 := Lib.hid (fun W (hW : NxAt W g Z l1) => next_any g Z l1 W hW hz)
    generalize nx l1 = v at *
    obtain ⟨v, l2⟩ := v
    dsimp only at *
    have hb1 : Below w.heap.size w ((w.alloc (.cells #[.int .i64 0, .int .i64 0, .int .i64 0, .int .i64 0, .int .u32 0, .int .i64 0, .string ⟨#[]⟩, .string ⟨#[]⟩, .slice none 0 0, .slice none 0 0, .slice none 0 0] 57)).alloc (.cells #[.int .i64 7, .int .i64 (1 + (x : Int) / 128), .int .i64 0, .int .i64 0, .int .u32 0, .int .i64 0, .string ⟨#[]⟩, .string ⟨#[]⟩, .slice none 0 0, .slice none 0 0, .slice none 0 0] 57)) := (by repeat (first | exact Below.refl _ _ | refine Below.alloc ?_ (by simp) _ | refine Below.setCell ?_ (by simp) _ | refine Below.drew ?_))
    have hr1 := (Blk.new w 57 #[.int .i64 0, .int .i64 0, .int .i64 0, .int .i64 0, .int .u32 0, .int .i64 0, .string ⟨#[]⟩, .string ⟨#[]⟩, .slice none 0 0, .slice none 0 0, .slice none 0 0]).alloc (.cells #[.int .i64 7, .int .i64 (1 + (x : Int) / 128), .int .i64 0, .int .i64 0, .int .u32 0, .int .i64 0, .string ⟨#[]⟩, .string ⟨#[]⟩, .slice none 0 0, .slice none 0 0, .slice none 0 0] 57)
    have ha1 := Blk.new (w.alloc (.cells #[.int .i64 0, .int .i64 0, .int .i64 0, .int .i64 0, .int .u32 0, .int .i64 0, .string ⟨#[]⟩, .string ⟨#[]⟩, .slice none 0 0, .slice none 0 0, .slice none 0 0] 57)) 57 #[.int .i64 7, .int .i64 (1 + (x : Int) / 128), .int .i64 0, .int .i64 0, .int .u32 0, .int .i64 0, .string ⟨#[]⟩, .string ⟨#[]⟩, .slice none 0 0, .slice none 0 0, .slice none 0 0]
    rw [World.size_alloc] at ha1
    have hw1 : IntKind.i64.wrap (3 * (u : Int)) = 3 * (u : Int) := IntWalk.i64_in _ (by omega)
    have hidx : ∀ W, (Instr.index 128 (.agg #[.int .i64 5, .int .i64 6, .int .i64 7, .int .i64 7]) (.int .i64 3)).run Try.prog W = .ok (.int .i64 7) W := fun W => by kernel_rfl
    have hw2 : IntKind.u32.wrap (v : Int) = (v : Int) := u32_in (by omega)
    have hw3 : IntKind.u32.wrap (256 * (v : Int)) = 256 * (v : Int) := u32_in (by omega)
    have hw4 : IntKind.u32.wrap (1 + 256 * (v : Int)) = 1 + 256 * (v : Int) := u32_in (by omega)
    clear hk
    go_enter Try.func52, Try.ntmps52
    go_wp2_with fail
    refine (HN.out _ (H.out.below hb1)).mono ?_
    rintro e w2 ⟨rfl, h2⟩
    have hr2 := hr1.fr h2.fr (by omega)
    have ha2 := (ha1.fr h2.fr (by omega)).set_ 2 (.int .i64 (u : Int))
    simp only [List.setIfInBounds_toArray, List.set_cons_zero, List.set_cons_succ] at ha2
    have hr3 := hr2.far (p := ⟨w.heap.size + 1, 2, none⟩) (by simp) (.int .i64 (u : Int))
    have f2 := (Fr.refl (fun k => k = w.heap.size + 1) w2).setAt (w.heap.size + 1) 2 rfl (.int .i64 (u : Int))
    have x2 : w2.cell? ⟨w.heap.size + 1, 2, none⟩ = some (.int .i64 0) := (ha1.fr h2.fr (by omega)).cell 2
    have y2 : w2.frozen? ⟨w.heap.size + 1, 2, none⟩ = false := (ha1.fr h2.fr (by omega)).frozen 2
    have hT2 := (NxTo.after hb1 h2).side f2 (by omega) hZ hg
    go_wp2_with fail
    generalize w2.setCell ⟨w.heap.size + 1, 2, none⟩ (.int .i64 (u : Int)) = w3 at *
    have e2 : w3.cell? ⟨w.heap.size + 1, 2, none⟩ = some (.int .i64 (u : Int)) := ha2.cell 2
    go_region_with (go_at_call 51; refine (HN2.out w3.drew (hT2.at_.below (Below.refl _ _).drew)).mono ?_; rintro e w4 ⟨rfl, h4⟩; have ha4 := ha2.drew.fr h4.fr (by omega); have hr4 := hr3.drew.fr h4.fr (by omega); have hT4 := (hT2.then_ (Below.refl _ _).drew).trans h4; have g2 : w4.cell? ⟨w.heap.size + 1, 2, none⟩ = some (.int .i64 (u : Int)) := ha4.cell 2; have g3 : w4.cell? ⟨w.heap.size + 1, 3, none⟩ = some (.int .i64 0) := ha4.cell 3; have g4 : w4.cell? ⟨w.heap.size + 1, 4, none⟩ = some (.int .u32 0) := ha4.cell 4; have k3 := ha4.frozen 3; have k4 := ha4.frozen 4)
    all_goals
      have ha5 := (ha4.set_ 3 (.int .i64 (3 * (u : Int)))).set_ 4 (.int .u32 (1 + 256 * (v : Int)))
      simp only [List.setIfInBounds_toArray, List.set_cons_zero, List.set_cons_succ] at ha5
      have hr5 := (hr4.far (p := ⟨w.heap.size + 1, 3, none⟩) (by simp) (.int .i64 (3 * (u : Int)))).far (p := ⟨w.heap.size + 1, 4, none⟩) (by simp) (.int .u32 (1 + 256 * (v : Int)))
      have f5 := ((Fr.refl (fun k => k = w.heap.size + 1) w4).setAt (w.heap.size + 1) 3 rfl (.int .i64 (3 * (u : Int)))).setAt (w.heap.size + 1) 4 rfl (.int .u32 (1 + 256 * (v : Int)))
      have hT5 := hT4.side f5 (by omega) hZ hg
      generalize (w4.setCell ⟨w.heap.size + 1, 3, none⟩ (.int .i64 (3 * (u : Int)))).setCell ⟨w.heap.size + 1, 4, none⟩ (.int .u32 (1 + 256 * (v : Int))) = w5 at *
      have r0 : w5.cell? ⟨w.heap.size, 0, none⟩ = some (.int .i64 0) := hr5.cell 0
      have z0 := hr5.frozen 0
      have r1 : w5.cell? ⟨w.heap.size, 1, none⟩ = some (.int .i64 0) := hr5.cell 1
      have z1 := hr5.frozen 1
      have r2 : w5.cell? ⟨w.heap.size, 2, none⟩ = some (.int .i64 0) := hr5.cell 2
      have z2 := hr5.frozen 2
      have r3 : w5.cell? ⟨w.heap.size, 3, none⟩ = some (.int .i64 0) := hr5.cell 3
      have z3 := hr5.frozen 3
      have r4 : w5.cell? ⟨w.heap.size, 4, none⟩ = some (.int .u32 0) := hr5.cell 4
      have z4 := hr5.frozen 4
      have r5 : w5.cell? ⟨w.heap.size, 5, none⟩ = some (.int .i64 0) := hr5.cell 5
      have z5 := hr5.frozen 5
      have r6 : w5.cell? ⟨w.heap.size, 6, none⟩ = some (.string ⟨#[]⟩) := hr5.cell 6
      have z6 := hr5.frozen 6
      have r7 : w5.cell? ⟨w.heap.size, 7, none⟩ = some (.string ⟨#[]⟩) := hr5.cell 7
      have z7 := hr5.frozen 7
      have r8 : w5.cell? ⟨w.heap.size, 8, none⟩ = some (.slice none 0 0) := hr5.cell 8
      have z8 := hr5.frozen 8
      have r9 : w5.cell? ⟨w.heap.size, 9, none⟩ = some (.slice none 0 0) := hr5.cell 9
      have z9 := hr5.frozen 9
      have r10 : w5.cell? ⟨w.heap.size, 10, none⟩ = some (.slice none 0 0) := hr5.cell 10
      have z10 := hr5.frozen 10
      have a0 : w5.cell? ⟨(w.heap.size + 1), 0, none⟩ = some (.int .i64 7) := ha5.cell 0
      have b0 := ha5.frozen 0
      have a1 : w5.cell? ⟨(w.heap.size + 1), 1, none⟩ = some (.int .i64 (1 + (x : Int) / 128)) := ha5.cell 1
      have b1 := ha5.frozen 1
      have a2 : w5.cell? ⟨(w.heap.size + 1), 2, none⟩ = some (.int .i64 (u : Int)) := ha5.cell 2
      have b2 := ha5.frozen 2
      have a3 : w5.cell? ⟨(w.heap.size + 1), 3, none⟩ = some (.int .i64 (3 * (u : Int))) := ha5.cell 3
      have b3 := ha5.frozen 3
      have a4 : w5.cell? ⟨(w.heap.size + 1), 4, none⟩ = some (.int .u32 (1 + 256 * (v : Int))) := ha5.cell 4
      have b4 := ha5.frozen 4
      have a5 : w5.cell? ⟨(w.heap.size + 1), 5, none⟩ = some (.int .i64 0) := ha5.cell 5
      have b5 := ha5.frozen 5
      have a6 : w5.cell? ⟨(w.heap.size + 1), 6, none⟩ = some (.string ⟨#[]⟩) := ha5.cell 6
      have b6 := ha5.frozen 6
      have a7 : w5.cell? ⟨(w.heap.size + 1), 7, none⟩ = some (.string ⟨#[]⟩) := ha5.cell 7
      have b7 := ha5.frozen 7
      have a8 : w5.cell? ⟨(w.heap.size + 1), 8, none⟩ = some (.slice none 0 0) := ha5.cell 8
      have b8 := ha5.frozen 8
      have a9 : w5.cell? ⟨(w.heap.size + 1), 9, none⟩ = some (.slice none 0 0) := ha5.cell 9
      have b9 := ha5.frozen 9
      have a10 : w5.cell? ⟨(w.heap.size + 1), 10, none⟩ = some (.slice none 0 0) := ha5.cell 10
      have b10 := ha5.frozen 10
      go_wp2_with fail
      refine act_ret hr5 rfl rfl rfl rfl ?_
      intro V hV fV
      exact ⟨{ a := { k := 7, s := 1 + (x : Int) / 128, n := (u : Int), b := 3 * (u : Int), m := 1 + 256 * (v : Int) } }, rfl, rfl, ⟨Rd.nil, Rd.nil, Rd.nil, ⟨by simp, by dsimp only; omega, by dsimp only; omega, by dsimp only; omega, by dsimp only; omega, by simp, Nat.zero_le _, Nat.zero_le _, by simp, by simp, by simp, by simp, by simp⟩⟩, hT5.side fV (Nat.le_refl _) hZ hg⟩

end Go.Proofs.Ytpbgcbpofhbgbaa

/- script.one at 10, 11: the edits; script.one whole. -/
namespace Go.Proofs.Ytpbgcbpofhbgbaa
open Go.RowKit

set_option maxRecDepth 100000 in
set_option maxHeartbeats 1000000 in
theorem one_10 (g : Nat) (Z : Nat → Prop) (x : Nat) (hx : x < 256) (hc : x % 16 = 10) (l : List UInt8) (w : World) (h : NxAt w g Z l) (hZ : ∀ b, Z b → b < g) :
    Calls Try.prog 52 #[.int .i64 (x : Int), nxF g] w (OneTo w g Z (oneS x l)) := by
  have _hZ := hZ
  obtain ⟨R, hR⟩ : ∃ R, R = oneS x l := ⟨_, rfl⟩
  rw [← hR]
  have HR := Lib.hid hR
  clear hR
  have H := Lib.hid h
  have hg := h.lt
  clear h
  have n10 : ((x : Int) % 16 == 10) = true := by simp; omega
  have n11 : ((x : Int) % 16 == 11) = false := by simp; omega
  have n12 : ((x : Int) % 16 == 12) = false := by simp; omega
  have n13 : ((x : Int) % 16 == 13) = false := by simp; omega
  have n14 : ((x : Int) % 16 == 14) = false := by simp; omega
  have n15 : ((x : Int) % 16 == 15) = false := by simp; omega
  have hz := z_not hZ
  have hu := nx_lt l
  have HN := Lib.hid (fun W (hW : NxAt W g Z l) => next_any g Z l W hW hz)
  obtain rfl : R = ({ k := (3 + (x : Int) % 16 - 10), ek := 1 + ((nx l).1 : Int) % 5, p := pathV (nx (nx l).2).1, t := pathV ((nx (nx l).2).1 / 16), x := dataV (nx l).1 (nx (nx l).2).1 }, (nx (nx l).2).2) := by rw [HR.out]; unfold oneS; rw [if_pos (by omega), show (x : Int) % 16 - 7 = (3 + (x : Int) % 16 - 10) by omega]
  clear HR
  generalize nx l = u at *
  obtain ⟨u, l1⟩ := u
  dsimp only at *

  have hv := nx_lt l1
  have HN2 := Lib.hid (fun W (hW : NxAt W g Z l1) => next_any g Z l1 W hW hz)
  generalize nx l1 = v at *
  obtain ⟨v, l2⟩ := v
  dsimp only at *

  have hP1 := pathV_size v
  have hP2 := pathV_size (v / 16)
  have hD := dataI_len u v (u / 8)
  have HE := Lib.hid (fun W => edited_any u v hu hv W)
  unfold dataV at HE ⊢
  generalize pathV v = P at *
  generalize pathV (v / 16) = Q at *
  generalize dataI u v (u / 8) = D at *
  have hb1 : Below w.heap.size w ((w.alloc (.cells #[.int .i64 0, .int .i64 0, .int .i64 0, .int .i64 0, .int .u32 0, .int .i64 0, .string ⟨#[]⟩, .string ⟨#[]⟩, .slice none 0 0, .slice none 0 0, .slice none 0 0] 57)).alloc (.cells #[.int .i64 (3 + (x : Int) % 16 - 10), .int .i64 0, .int .i64 0, .int .i64 0, .int .u32 0, .int .i64 0, .string ⟨#[]⟩, .string ⟨#[]⟩, .slice none 0 0, .slice none 0 0, .slice none 0 0] 57)) := (by repeat (first | exact Below.refl _ _ | refine Below.alloc ?_ (by simp) _ | refine Below.setCell ?_ (by simp) _ | refine Below.drew ?_))
  have hr1 := (Blk.new w 57 #[.int .i64 0, .int .i64 0, .int .i64 0, .int .i64 0, .int .u32 0, .int .i64 0, .string ⟨#[]⟩, .string ⟨#[]⟩, .slice none 0 0, .slice none 0 0, .slice none 0 0]).alloc (.cells #[.int .i64 (3 + (x : Int) % 16 - 10), .int .i64 0, .int .i64 0, .int .i64 0, .int .u32 0, .int .i64 0, .string ⟨#[]⟩, .string ⟨#[]⟩, .slice none 0 0, .slice none 0 0, .slice none 0 0] 57)
  have ha1 := Blk.new (w.alloc (.cells #[.int .i64 0, .int .i64 0, .int .i64 0, .int .i64 0, .int .u32 0, .int .i64 0, .string ⟨#[]⟩, .string ⟨#[]⟩, .slice none 0 0, .slice none 0 0, .slice none 0 0] 57)) 57 #[.int .i64 (3 + (x : Int) % 16 - 10), .int .i64 0, .int .i64 0, .int .i64 0, .int .u32 0, .int .i64 0, .string ⟨#[]⟩, .string ⟨#[]⟩, .slice none 0 0, .slice none 0 0, .slice none 0 0]
  rw [World.size_alloc] at ha1
  go_enter Try.func52, Try.ntmps52
  go_wp2_with fail
  refine (HN.out _ (H.out.below hb1)).mono ?_
  rintro e w2 ⟨rfl, h2⟩
  have hr2 := hr1.fr h2.fr (by omega)
  have ha2 := ha1.fr h2.fr (by omega)
  go_wp2_with fail
  refine (HN2.out _ h2.at_).mono ?_
  rintro e w3 ⟨rfl, h3⟩
  have hr3 := hr2.fr h3.fr (by omega)
  have ha3 := ha2.fr h3.fr (by omega)
  have hT3 := (NxTo.after hb1 h2).trans h3
  go_wp2_with fail
  refine (HE.out _).mono ?_
  rintro e w4 ⟨A5, c5, L5, rfl, hL5, ho5, hb5⟩
  have hr4 := hr3.below hb5
  have ha4 := ha3.below hb5
  have hT4 := hT3.then_ hb5
  have a0 : w4.cell? ⟨(w.heap.size + 1), 0, none⟩ = some (.int .i64 (3 + (x : Int) % 16 - 10)) := ha4.cell 0
  have b0 := ha4.frozen 0
  have a1 : w4.cell? ⟨(w.heap.size + 1), 1, none⟩ = some (.int .i64 0) := ha4.cell 1
  have b1 := ha4.frozen 1
  have a2 : w4.cell? ⟨(w.heap.size + 1), 2, none⟩ = some (.int .i64 0) := ha4.cell 2
  have b2 := ha4.frozen 2
  have a3 : w4.cell? ⟨(w.heap.size + 1), 3, none⟩ = some (.int .i64 0) := ha4.cell 3
  have b3 := ha4.frozen 3
  have a4 : w4.cell? ⟨(w.heap.size + 1), 4, none⟩ = some (.int .u32 0) := ha4.cell 4
  have b4 := ha4.frozen 4
  have a5 : w4.cell? ⟨(w.heap.size + 1), 5, none⟩ = some (.int .i64 0) := ha4.cell 5
  have b5 := ha4.frozen 5
  have a6 : w4.cell? ⟨(w.heap.size + 1), 6, none⟩ = some (.string ⟨#[]⟩) := ha4.cell 6
  have b6 := ha4.frozen 6
  have a7 : w4.cell? ⟨(w.heap.size + 1), 7, none⟩ = some (.string ⟨#[]⟩) := ha4.cell 7
  have b7 := ha4.frozen 7
  have a8 : w4.cell? ⟨(w.heap.size + 1), 8, none⟩ = some (.slice none 0 0) := ha4.cell 8
  have b8 := ha4.frozen 8
  have a9 : w4.cell? ⟨(w.heap.size + 1), 9, none⟩ = some (.slice none 0 0) := ha4.cell 9
  have b9 := ha4.frozen 9
  have a10 : w4.cell? ⟨(w.heap.size + 1), 10, none⟩ = some (.slice none 0 0) := ha4.cell 10
  have b10 := ha4.frozen 10
  have r0 : w4.cell? ⟨w.heap.size, 0, none⟩ = some (.int .i64 0) := hr4.cell 0
  have z0 := hr4.frozen 0
  have r1 : w4.cell? ⟨w.heap.size, 1, none⟩ = some (.int .i64 0) := hr4.cell 1
  have z1 := hr4.frozen 1
  have r2 : w4.cell? ⟨w.heap.size, 2, none⟩ = some (.int .i64 0) := hr4.cell 2
  have z2 := hr4.frozen 2
  have r3 : w4.cell? ⟨w.heap.size, 3, none⟩ = some (.int .i64 0) := hr4.cell 3
  have z3 := hr4.frozen 3
  have r4 : w4.cell? ⟨w.heap.size, 4, none⟩ = some (.int .u32 0) := hr4.cell 4
  have z4 := hr4.frozen 4
  have r5 : w4.cell? ⟨w.heap.size, 5, none⟩ = some (.int .i64 0) := hr4.cell 5
  have z5 := hr4.frozen 5
  have r6 : w4.cell? ⟨w.heap.size, 6, none⟩ = some (.string ⟨#[]⟩) := hr4.cell 6
  have z6 := hr4.frozen 6
  have r7 : w4.cell? ⟨w.heap.size, 7, none⟩ = some (.string ⟨#[]⟩) := hr4.cell 7
  have z7 := hr4.frozen 7
  have r8 : w4.cell? ⟨w.heap.size, 8, none⟩ = some (.slice none 0 0) := hr4.cell 8
  have z8 := hr4.frozen 8
  have r9 : w4.cell? ⟨w.heap.size, 9, none⟩ = some (.slice none 0 0) := hr4.cell 9
  have z9 := hr4.frozen 9
  have r10 : w4.cell? ⟨w.heap.size, 10, none⟩ = some (.slice none 0 0) := hr4.cell 10
  have z10 := hr4.frozen 10
  have s4 := hT3.fr.size
  go_wp2_with fail
  have hr5 := (((hr4.far (p := ⟨w.heap.size + 1, 5, none⟩) (by simp) (.int .i64 (1 + (u : Int) % 5))).far (p := ⟨w.heap.size + 1, 6, none⟩) (by simp) (.string P)).far (p := ⟨w.heap.size + 1, 7, none⟩) (by simp) (.string Q)).far (p := ⟨w.heap.size + 1, 8, none⟩) (by simp) (.slice A5 L5.length c5)
  have f5 := ((((Fr.refl (fun k => k = w.heap.size + 1) w4).setAt (w.heap.size + 1) 5 rfl (.int .i64 (1 + (u : Int) % 5))).setAt (w.heap.size + 1) 6 rfl (.string P)).setAt (w.heap.size + 1) 7 rfl (.string Q)).setAt (w.heap.size + 1) 8 rfl (.slice A5 L5.length c5)
  have s3 : w.heap.size + 1 < w3.heap.size := ha3.lt
  have hy5 : By w4 (fun b => w3.heap.size ≤ b) A5 L5 := ho5.rd.mono (fun b _ hb => (own_ablk ho5 b hb).1)
  refine act_ret hr5 rfl rfl rfl rfl ?_
  intro V hV fV
  have hy6 := (hy5.fr f5 (fun b _ hb e => by omega)).fr fV (fun b _ hb e => by omega)
  have hL : L5.length ≤ 32 := by rw [hL5.out, hD]; omega
  refine ⟨{ a := { k := (3 + (x : Int) % 16 - 10), ek := 1 + (u : Int) % 5, p := P, t := Q, x := L5 }, xA := A5, xc := c5 }, rfl, ?_, ⟨hy6.mono (fun b _ hb => by omega), Rd.nil, Rd.nil, ?_⟩, (hT4.side f5 (by omega) hZ hg).side fV (Nat.le_refl _) hZ hg⟩
  · show _ = _
    dsimp only
    rw [hL5.out]
  · exact ⟨by dsimp only; omega, by simp, by simp, by simp, by simp, by dsimp only; omega, by dsimp only; omega, by dsimp only; omega, by dsimp only; omega, by simp, by simp, by simp, by simp⟩

set_option maxRecDepth 100000 in
set_option maxHeartbeats 1000000 in
theorem one_11 (g : Nat) (Z : Nat → Prop) (x : Nat) (hx : x < 256) (hc : x % 16 = 11) (l : List UInt8) (w : World) (h : NxAt w g Z l) (hZ : ∀ b, Z b → b < g) :
    Calls Try.prog 52 #[.int .i64 (x : Int), nxF g] w (OneTo w g Z (oneS x l)) := by
  have _hZ := hZ
  obtain ⟨R, hR⟩ : ∃ R, R = oneS x l := ⟨_, rfl⟩
  rw [← hR]
  have HR := Lib.hid hR
  clear hR
  have H := Lib.hid h
  have hg := h.lt
  clear h
  have n10 : ((x : Int) % 16 == 10) = false := by simp; omega
  have n11 : ((x : Int) % 16 == 11) = true := by simp; omega
  have n12 : ((x : Int) % 16 == 12) = false := by simp; omega
  have n13 : ((x : Int) % 16 == 13) = false := by simp; omega
  have n14 : ((x : Int) % 16 == 14) = false := by simp; omega
  have n15 : ((x : Int) % 16 == 15) = false := by simp; omega
  have hz := z_not hZ
  have hu := nx_lt l
  have HN := Lib.hid (fun W (hW : NxAt W g Z l) => next_any g Z l W hW hz)
  obtain rfl : R = ({ k := (3 + (x : Int) % 16 - 10), ek := 1 + ((nx l).1 : Int) % 5, p := pathV (nx (nx l).2).1, t := pathV ((nx (nx l).2).1 / 16), x := dataV (nx l).1 (nx (nx l).2).1 }, (nx (nx l).2).2) := by rw [HR.out]; unfold oneS; rw [if_pos (by omega), show (x : Int) % 16 - 7 = (3 + (x : Int) % 16 - 10) by omega]
  clear HR
  generalize nx l = u at *
  obtain ⟨u, l1⟩ := u
  dsimp only at *

  have hv := nx_lt l1
  have HN2 := Lib.hid (fun W (hW : NxAt W g Z l1) => next_any g Z l1 W hW hz)
  generalize nx l1 = v at *
  obtain ⟨v, l2⟩ := v
  dsimp only at *

  have hP1 := pathV_size v
  have hP2 := pathV_size (v / 16)
  have hD := dataI_len u v (u / 8)
  have HE := Lib.hid (fun W => edited_any u v hu hv W)
  unfold dataV at HE ⊢
  generalize pathV v = P at *
  generalize pathV (v / 16) = Q at *
  generalize dataI u v (u / 8) = D at *
  have hb1 : Below w.heap.size w ((w.alloc (.cells #[.int .i64 0, .int .i64 0, .int .i64 0, .int .i64 0, .int .u32 0, .int .i64 0, .string ⟨#[]⟩, .string ⟨#[]⟩, .slice none 0 0, .slice none 0 0, .slice none 0 0] 57)).alloc (.cells #[.int .i64 (3 + (x : Int) % 16 - 10), .int .i64 0, .int .i64 0, .int .i64 0, .int .u32 0, .int .i64 0, .string ⟨#[]⟩, .string ⟨#[]⟩, .slice none 0 0, .slice none 0 0, .slice none 0 0] 57)) := (by repeat (first | exact Below.refl _ _ | refine Below.alloc ?_ (by simp) _ | refine Below.setCell ?_ (by simp) _ | refine Below.drew ?_))
  have hr1 := (Blk.new w 57 #[.int .i64 0, .int .i64 0, .int .i64 0, .int .i64 0, .int .u32 0, .int .i64 0, .string ⟨#[]⟩, .string ⟨#[]⟩, .slice none 0 0, .slice none 0 0, .slice none 0 0]).alloc (.cells #[.int .i64 (3 + (x : Int) % 16 - 10), .int .i64 0, .int .i64 0, .int .i64 0, .int .u32 0, .int .i64 0, .string ⟨#[]⟩, .string ⟨#[]⟩, .slice none 0 0, .slice none 0 0, .slice none 0 0] 57)
  have ha1 := Blk.new (w.alloc (.cells #[.int .i64 0, .int .i64 0, .int .i64 0, .int .i64 0, .int .u32 0, .int .i64 0, .string ⟨#[]⟩, .string ⟨#[]⟩, .slice none 0 0, .slice none 0 0, .slice none 0 0] 57)) 57 #[.int .i64 (3 + (x : Int) % 16 - 10), .int .i64 0, .int .i64 0, .int .i64 0, .int .u32 0, .int .i64 0, .string ⟨#[]⟩, .string ⟨#[]⟩, .slice none 0 0, .slice none 0 0, .slice none 0 0]
  rw [World.size_alloc] at ha1
  go_enter Try.func52, Try.ntmps52
  go_wp2_with fail
  refine (HN.out _ (H.out.below hb1)).mono ?_
  rintro e w2 ⟨rfl, h2⟩
  have hr2 := hr1.fr h2.fr (by omega)
  have ha2 := ha1.fr h2.fr (by omega)
  go_wp2_with fail
  refine (HN2.out _ h2.at_).mono ?_
  rintro e w3 ⟨rfl, h3⟩
  have hr3 := hr2.fr h3.fr (by omega)
  have ha3 := ha2.fr h3.fr (by omega)
  have hT3 := (NxTo.after hb1 h2).trans h3
  go_wp2_with fail
  refine (HE.out _).mono ?_
  rintro e w4 ⟨A5, c5, L5, rfl, hL5, ho5, hb5⟩
  have hr4 := hr3.below hb5
  have ha4 := ha3.below hb5
  have hT4 := hT3.then_ hb5
  have a0 : w4.cell? ⟨(w.heap.size + 1), 0, none⟩ = some (.int .i64 (3 + (x : Int) % 16 - 10)) := ha4.cell 0
  have b0 := ha4.frozen 0
  have a1 : w4.cell? ⟨(w.heap.size + 1), 1, none⟩ = some (.int .i64 0) := ha4.cell 1
  have b1 := ha4.frozen 1
  have a2 : w4.cell? ⟨(w.heap.size + 1), 2, none⟩ = some (.int .i64 0) := ha4.cell 2
  have b2 := ha4.frozen 2
  have a3 : w4.cell? ⟨(w.heap.size + 1), 3, none⟩ = some (.int .i64 0) := ha4.cell 3
  have b3 := ha4.frozen 3
  have a4 : w4.cell? ⟨(w.heap.size + 1), 4, none⟩ = some (.int .u32 0) := ha4.cell 4
  have b4 := ha4.frozen 4
  have a5 : w4.cell? ⟨(w.heap.size + 1), 5, none⟩ = some (.int .i64 0) := ha4.cell 5
  have b5 := ha4.frozen 5
  have a6 : w4.cell? ⟨(w.heap.size + 1), 6, none⟩ = some (.string ⟨#[]⟩) := ha4.cell 6
  have b6 := ha4.frozen 6
  have a7 : w4.cell? ⟨(w.heap.size + 1), 7, none⟩ = some (.string ⟨#[]⟩) := ha4.cell 7
  have b7 := ha4.frozen 7
  have a8 : w4.cell? ⟨(w.heap.size + 1), 8, none⟩ = some (.slice none 0 0) := ha4.cell 8
  have b8 := ha4.frozen 8
  have a9 : w4.cell? ⟨(w.heap.size + 1), 9, none⟩ = some (.slice none 0 0) := ha4.cell 9
  have b9 := ha4.frozen 9
  have a10 : w4.cell? ⟨(w.heap.size + 1), 10, none⟩ = some (.slice none 0 0) := ha4.cell 10
  have b10 := ha4.frozen 10
  have r0 : w4.cell? ⟨w.heap.size, 0, none⟩ = some (.int .i64 0) := hr4.cell 0
  have z0 := hr4.frozen 0
  have r1 : w4.cell? ⟨w.heap.size, 1, none⟩ = some (.int .i64 0) := hr4.cell 1
  have z1 := hr4.frozen 1
  have r2 : w4.cell? ⟨w.heap.size, 2, none⟩ = some (.int .i64 0) := hr4.cell 2
  have z2 := hr4.frozen 2
  have r3 : w4.cell? ⟨w.heap.size, 3, none⟩ = some (.int .i64 0) := hr4.cell 3
  have z3 := hr4.frozen 3
  have r4 : w4.cell? ⟨w.heap.size, 4, none⟩ = some (.int .u32 0) := hr4.cell 4
  have z4 := hr4.frozen 4
  have r5 : w4.cell? ⟨w.heap.size, 5, none⟩ = some (.int .i64 0) := hr4.cell 5
  have z5 := hr4.frozen 5
  have r6 : w4.cell? ⟨w.heap.size, 6, none⟩ = some (.string ⟨#[]⟩) := hr4.cell 6
  have z6 := hr4.frozen 6
  have r7 : w4.cell? ⟨w.heap.size, 7, none⟩ = some (.string ⟨#[]⟩) := hr4.cell 7
  have z7 := hr4.frozen 7
  have r8 : w4.cell? ⟨w.heap.size, 8, none⟩ = some (.slice none 0 0) := hr4.cell 8
  have z8 := hr4.frozen 8
  have r9 : w4.cell? ⟨w.heap.size, 9, none⟩ = some (.slice none 0 0) := hr4.cell 9
  have z9 := hr4.frozen 9
  have r10 : w4.cell? ⟨w.heap.size, 10, none⟩ = some (.slice none 0 0) := hr4.cell 10
  have z10 := hr4.frozen 10
  have s4 := hT3.fr.size
  go_wp2_with fail
  have hr5 := (((hr4.far (p := ⟨w.heap.size + 1, 5, none⟩) (by simp) (.int .i64 (1 + (u : Int) % 5))).far (p := ⟨w.heap.size + 1, 6, none⟩) (by simp) (.string P)).far (p := ⟨w.heap.size + 1, 7, none⟩) (by simp) (.string Q)).far (p := ⟨w.heap.size + 1, 8, none⟩) (by simp) (.slice A5 L5.length c5)
  have f5 := ((((Fr.refl (fun k => k = w.heap.size + 1) w4).setAt (w.heap.size + 1) 5 rfl (.int .i64 (1 + (u : Int) % 5))).setAt (w.heap.size + 1) 6 rfl (.string P)).setAt (w.heap.size + 1) 7 rfl (.string Q)).setAt (w.heap.size + 1) 8 rfl (.slice A5 L5.length c5)
  have s3 : w.heap.size + 1 < w3.heap.size := ha3.lt
  have hy5 : By w4 (fun b => w3.heap.size ≤ b) A5 L5 := ho5.rd.mono (fun b _ hb => (own_ablk ho5 b hb).1)
  refine act_ret hr5 rfl rfl rfl rfl ?_
  intro V hV fV
  have hy6 := (hy5.fr f5 (fun b _ hb e => by omega)).fr fV (fun b _ hb e => by omega)
  have hL : L5.length ≤ 32 := by rw [hL5.out, hD]; omega
  refine ⟨{ a := { k := (3 + (x : Int) % 16 - 10), ek := 1 + (u : Int) % 5, p := P, t := Q, x := L5 }, xA := A5, xc := c5 }, rfl, ?_, ⟨hy6.mono (fun b _ hb => by omega), Rd.nil, Rd.nil, ?_⟩, (hT4.side f5 (by omega) hZ hg).side fV (Nat.le_refl _) hZ hg⟩
  · show _ = _
    dsimp only
    rw [hL5.out]
  · exact ⟨by dsimp only; omega, by simp, by simp, by simp, by simp, by dsimp only; omega, by dsimp only; omega, by dsimp only; omega, by dsimp only; omega, by simp, by simp, by simp, by simp⟩

theorem one_any (g : Nat) (Z : Nat → Prop) (x : Nat) (hx : x < 256) (l : List UInt8) (w : World) (h : NxAt w g Z l) (hZ : ∀ b, Z b → b < g) :
    Calls Try.prog 52 #[.int .i64 (x : Int), nxF g] w (OneTo w g Z (oneS x l)) := by
  rcases (show x % 16 < 10 ∨ x % 16 = 10 ∨ x % 16 = 11 ∨ x % 16 = 12 ∨ x % 16 = 13 ∨ x % 16 = 14 ∨ x % 16 = 15 by omega) with h1 | h1 | h1 | h1 | h1 | h1 | h1
  · exact one_plain g Z x hx h1 l w h hZ
  · exact one_10 g Z x hx h1 l w h hZ
  · exact one_11 g Z x hx h1 l w h hZ
  · exact one_12 g Z x hx h1 l w h hZ
  · exact one_13 g Z x hx h1 l w h hZ
  · exact one_14 g Z x hx h1 l w h hZ
  · exact one_15 g Z x hx h1 l w h hZ

end Go.Proofs.Ytpbgcbpofhbgbaa

/- script.Any: the acts of any bytes. -/
namespace Go.Proofs.Ytpbgcbpofhbgbaa
open Go.RowKit

/-- the acts of any bytes -/
def anyF : Nat → List UInt8 → List AS
  | 0, _ => []
  | _ + 1, [] => []
  | n + 1, b :: r => (oneS b.toNat r).1 :: anyF n (oneS b.toNat r).2
theorem anyF_nil (n : Nat) : anyF n [] = [] := by cases n <;> rfl
theorem oneS_len (x : Nat) (l : List UInt8) : (oneS x l).2.length ≤ l.length := by
  have h1 := nx_len l
  have h2 := nx_len (nx l).2
  unfold oneS
  repeat' split
  all_goals dsimp only
  all_goals omega
theorem oneS_right (x : Nat) (hx : x < 256) (l : List UInt8) : rightA (oneS x l).1 = true := by
  have hu := nx_lt l
  have hv := nx_lt (nx l).2
  have hp := pathV_size (nx (nx l).2).1
  have ht := pathV_size ((nx (nx l).2).1 / 16)
  have hc := pathV_size (nx l).1
  have hd : (dataV (nx l).1 (nx (nx l).2).1).length ≤ 32 := by unfold dataV; rw [dataI_len]; omega
  have hz : (⟨#[]⟩ : ByteArray).size = 0 := rfl
  unfold oneS
  generalize (nx l).1 = u at *
  generalize (nx (nx l).2).1 = v at *
  generalize pathV v = P at *
  generalize pathV (v / 16) = Q at *
  generalize pathV u = C at *
  generalize dataV u v = D at *
  repeat' split
  all_goals
    simp [rightA, editB, inB, goodK, goodC, hz]
    (try omega)
/-- what the rounds of Any keep -/
def anRel (W : World) (g : Nat) (Z : Nat → Prop) (l : List UInt8) (ov : Value) (wr : World) : Prop :=
  ∃ (s : List AV) (A : Option Addr) (c : Nat) (r : List UInt8), ov = .slice A s.length c ∧ NxAt wr g Z r ∧ Row wr W.heap.size 57 11 A s.length c (s.flatMap AV.cells) ∧ (∀ v ∈ s, v.ok wr (fun b => W.heap.size ≤ b ∧ ablk A ≠ some b)) ∧
    Hid (anyF l.length l = s.map AV.a ++ anyF (l.length - s.length) r) ∧ s.length + r.length ≤ l.length ∧ Fr (fun k => k = g) W wr
def lenOfV : Value → Nat | .slice _ n _ => n | _ => 0

set_option maxRecDepth 100000 in
set_option maxHeartbeats 1000000 in
theorem any_any (x : BV) (w : World) (h : x.ok w (fun b => b < w.heap.size)) (hl : x.l.length ≤ 2000) :
    Calls Try.prog 26 #[x.v] w fun e w' => ∃ (A : Option Addr) (c : Nat) (s : List AV), e = .returned (.slice A s.length c) ∧ Hid (s.map AV.a = anyF x.l.length x.l) ∧ Acts w' (fun b => w.heap.size ≤ b) A s ∧ s.length ≤ x.l.length ∧ Below w.heap.size w w' := by
  obtain ⟨xA, xc, l⟩ := x
  obtain ⟨hy, hlc, hcm⟩ := h
  dsimp only at *
  have hb1 : Below w.heap.size w (w.alloc (.cells #[.slice xA l.length xc] 23)) := (by repeat (first | exact Below.refl _ _ | refine Below.alloc ?_ (by simp) _ | refine Below.setCell ?_ (by simp) _ | refine Below.drew ?_))
  have hN : NxAt (w.alloc (.cells #[.slice xA l.length xc] 23)) w.heap.size (fun b => b < w.heap.size) l := ⟨xA, xc, Blk.new w 23 #[.slice xA l.length xc], hy.alloc _, hlc, hcm⟩
  have hsW : (w.alloc (.cells #[.slice xA l.length xc] 23)).heap.size = w.heap.size + 1 := World.size_alloc _ _
  obtain ⟨i0, hi0, hz0, hz1, hz2⟩ := info_parts act_info
  go_enter Try.func26, Try.ntmps26
  go_wp2_with fail
  generalize w.alloc (.cells #[.slice xA l.length xc] 23) = W at *
  go_loopw [2] (fun ov wr => anRel W w.heap.size (fun b => b < w.heap.size) l ov wr) (fun ov _ => l.length - lenOfV ov)
  case atStart => exact ⟨[], none, 0, l, rfl, hN, Row.none_ _ _ _ _, by simp, by show _ = _; simp, by simp, Fr.refl _ _⟩
  case round =>
    obtain ⟨s, A, c, r, rfl, hn, hrow, hok, hF, hlen, hfr⟩ := hrel
    have hsz := hfr.size
    obtain ⟨rA, rc, hb, hry, hrc, hrm⟩ := id hn
    have c0 := hb.cell 0
    simp at c0
    have hAg : ablk A ≠ some w.heap.size := hrow.ne_blk hb (by decide)
    rcases r with _ | ⟨b, r⟩
    · have HF2 := hF.out
      clear hF
      go_wp2_with fail
      go_ret
      rw [anyF_nil, List.append_nil] at HF2
      exact ⟨A, c, s, rfl, HF2.symm, ⟨hrow.rd.mono (fun b _ hz => by have := (hrow.lt b hz).1; omega), fun v hv => (hok v hv).mono (fun b _ hz => by omega), by omega⟩, by simp at hlen; omega, hb1.trans (hfr.below hb1.size (fun k hk e => by omega))⟩
    · have HN := Lib.hid (next_any w.heap.size _ (b :: r) wr hn (by simp))
      have hbl := b.toNat_lt
      simp only [nx] at HN
      go_wp2_with fail
      refine HN.out.mono ?_
      rintro e w2 ⟨rfl, h2⟩
      clear c0 hb HN
      go_wp2_with fail
      refine (one_any w.heap.size _ b.toNat hbl r w2 h2.at_ (fun b hb => hb)).mono ?_
      rintro e w3 ⟨v, rfl, hv, hvo, h3⟩
      have f23 := h2.fr.trans h3.fr (fun _ _ h => h)
      have row3 := hrow.fr f23 (fun g hg e => hAg (by rw [hg, e]))
      have ok3 : ∀ u ∈ s, u.ok w3 (fun b => W.heap.size ≤ b ∧ ablk A ≠ some b) := fun u hu => (hok u hu).fr f23 (fun b _ hz e => by omega)
      have hAl := hrow.lt
      have hs2 := h2.fr.size
      have hs3 := h3.fr.size
      have hone : ∀ u ∈ v.cells, u.oneCell' = true := fun u hu => act_one [v] u (by simpa using hu)
      have hN3 := h3.at_
      have hF3 : Hid (anyF l.length l = (s ++ [v]).map AV.a ++ anyF (l.length - (s.length + 1)) (oneS b.toNat r).2) := by
        show _ = _
        rw [hF.out, List.map_append, List.append_assoc]
        simp only [List.length_cons] at hlen
        rw [show l.length - s.length = (l.length - (s.length + 1)) + 1 by omega, anyF, List.map_cons, List.map_nil, hv.out]
        rfl
      have hl3 := oneS_len b.toNat r
      have hW3 := hfr.trans f23 (fun _ _ h => h)
      generalize (oneS b.toNat r).2 = r' at *
      clear hF hN
      simp only [List.length_cons] at hlen
      go_wp2_with (at_builtin; refine wpList_append_row _ rfl (.tmp 8) (.tmp 13) 50 rfl W.heap.size 57 i0 _ 11 152 Try.underlying50 hi0 hz0 hz1 hz2 rfl (by omega) rfl (row3.alloc _) rfl (Rd.lit (xs := v.cells) (n := 1) rfl rfl rfl) hone (by simp only [maxLen]; omega) (by omega) (by simp; omega) ?_; intro A4 c4 w4 hrow4 hg4 hat4)
      have fr4 := Fr.of_grown hg4 (S := fun k => ablk A = some k) (fun k _ e => e)
      have bl4 : Below w3.heap.size w3 (w3.alloc (.cells v.cells.toArray 57)) := (by repeat (first | exact Below.refl _ _ | refine Below.alloc ?_ (by simp) _ | refine Below.setCell ?_ (by simp) _ | refine Below.drew ?_))
      go_roundw
      case rel =>
        refine ⟨s ++ [v], A4, c4, r', by simp, (hN3.below bl4).fr fr4 (fun e => hAg e) (fun b _ hb e => by have := (hAl b e).1; omega), ?_, ?_, ?_, ?_, ?_⟩
        · rw [List.length_append, List.flatMap_append, List.flatMap_cons, List.flatMap_nil, List.append_nil]
          exact hrow4
        · intro u hu
          have hst : ∀ b, b < w3.heap.size → ablk A ≠ some b → ablk A4 ≠ some b := fun b hb hn e => by
            rcases hat4 b e with h | h
            · exact hn h
            · simp at h; omega
          rcases List.mem_append.1 hu with hu | hu
          · have q := ((ok3 u hu).mono (Z' := fun b => (W.heap.size ≤ b ∧ ablk A ≠ some b) ∧ b < w3.heap.size) (fun b hb hz => ⟨hz, hb⟩)).below bl4
            exact (q.fr fr4 (fun b _ hz e => hz.1.2 e)).mono (fun b _ hz => ⟨hz.1.1, hst b hz.2 hz.1.2⟩)
          · obtain rfl := List.mem_singleton.1 hu
            have q := (hvo.mono (Z' := fun b => w2.heap.size ≤ b ∧ b < w3.heap.size) (fun b hb hz => ⟨hz, hb⟩)).below bl4
            exact (q.fr fr4 (fun b _ hz e => by have := (hAl b e).2; omega)).mono (fun b _ hz => ⟨by omega, hst b hz.2 (fun e => by have := (hAl b e).2; omega)⟩)
        · show _ = _
          rw [List.length_append]
          exact hF3.out
        · simp; omega
        · exact (hW3.then_below bl4).trans fr4 (fun x hx e => absurd (hAl x e).1 (by omega))
      case measure => simp [lenOfV]; omega
end Go.Proofs.Ytpbgcbpofhbgbaa

/- tenderlaw41: its example. -/
namespace Go.Proofs.Ytpbgcbpofhbgbaa
open Go.RowKit

theorem any_ex : anyF 3 [15, 0, 5] = [{ k := 12 }, { k := 1, n := 1400 }, { k := 2, n := 1400 }] := by
  simp [anyF, oneS]
set_option maxRecDepth 100000 in
set_option maxHeartbeats 1000000 in
theorem lives41_any (w : World) : Calls Try.prog 25 #[] w fun e w' => e = .returned (.bool true) ∧ Below w.heap.size w w' := by
  have hb1 : Below w.heap.size w (w.alloc (.cells #[.int .u8 15, .int .u8 0, .int .u8 5] 5)) := (by repeat (first | exact Below.refl _ _ | refine Below.alloc ?_ (by simp) _ | refine Below.setCell ?_ (by simp) _ | refine Below.drew ?_))
  have hok : (⟨some ⟨w.heap.size, 0, none⟩, 3, [15, 0, 5]⟩ : BV).ok (w.alloc (.cells #[.int .u8 15, .int .u8 0, .int .u8 5] 5)) (fun b => b < (w.alloc (.cells #[.int .u8 15, .int .u8 0, .int .u8 5] 5)).heap.size) :=
    ⟨(Rd.lit (xs := [15, 0, 5].map bv) (n := 3) rfl rfl rfl).mono (fun b hb _ => hb), Nat.le_refl _, by simp [maxLen]⟩
  go_enter Try.func25, Try.ntmps25
  go_wp2_with fail
  refine (any_any ⟨some ⟨w.heap.size, 0, none⟩, 3, [15, 0, 5]⟩ _ hok (by simp)).mono ?_
  rintro e w2 ⟨A, c, s, rfl, hs, ha, _, hb2⟩
  have hb3 := hb1.trans (hb2.mono hb1.size)
  have he := hs.out
  rw [show ([15, 0, 5] : List UInt8).length = 3 from rfl, any_ex] at he
  clear hs
  have hl3 : s.length = 3 := by simpa using congrArg List.length he
  obtain ⟨v0, v1, v2, rfl⟩ : ∃ v0 v1 v2, s = [v0, v1, v2] := by
    rcases s with _ | ⟨v0, _ | ⟨v1, _ | ⟨v2, _ | _⟩⟩⟩
    all_goals first
      | exact ⟨_, _, _, rfl⟩
      | (simp at hl3)
  clear hl3
  · skip
    simp only [List.map_cons, List.map_nil, List.cons.injEq, and_true] at he
    obtain ⟨e0, e1, e2⟩ := he
    obtain ⟨g, o, rfl, _, _, p0, _⟩ := av_at ha.rd (i := 0) (by simp)
    obtain ⟨g', o', h1, _, _, q0, _⟩ := av_at ha.rd (i := 1) (by simp)
    obtain ⟨g'', o'', h2, _, _, r0, _, r2, _⟩ := av_at ha.rd (i := 2) (by simp)
    injection h1 with h1
    injection h1 with h1 h1'
    injection h2 with h2
    injection h2 with h2 h2'
    subst h1 h1' h2 h2'
    have P0 : w2.cell? ⟨g, o, none⟩ = some (.int .i64 12) := by rw [show (12 : Int) = v0.a.k by rw [e0]]; simpa using p0
    have Q0 : w2.cell? ⟨g, o + 11, none⟩ = some (.int .i64 1) := by rw [show (1 : Int) = v1.a.k by rw [e1]]; simpa using q0
    have R0 : w2.cell? ⟨g, o + 22, none⟩ = some (.int .i64 2) := by rw [show (2 : Int) = v2.a.k by rw [e2]]; simpa using r0
    have R2 : w2.cell? ⟨g, o + 22 + 2, none⟩ = some (.int .i64 1400) := by rw [show (1400 : Int) = v2.a.n by rw [e2]]; simpa using r2
    clear p0 q0 r0 r2 ha e0 e1 e2
    rw [show [v0, v1, v2].length = 3 from rfl]
    clear hb1 hok hb2
    go_wp2_with fail
    go_ret
    exact ⟨rfl, hb3⟩
end Go.Proofs.Ytpbgcbpofhbgbaa
