/- script.one: the act of a byte, and of others behind it. -/
import Derived.Test.YtpbgcbpofhbgbaaScriptEnd
namespace Go.Proofs.Ytpbgcbpofhbgbaa
open Go.RowKit

def oneS (x : Nat) (l : List UInt8) : AS × List UInt8 :=
  if x % 16 = 10 ∨ x % 16 = 11 then ({ k := (x : Int) % 16 - 7, ek := 1 + ((nx l).1 : Int) % 5, p := pathV (nx (nx l).2).1, t := pathV ((nx (nx l).2).1 / 16), x := dataV (nx l).1 (nx (nx l).2).1 }, (nx (nx l).2).2)
  else if x % 16 = 12 then ({ k := if x / 16 % 4 = 0 then 5 else if x / 16 % 4 = 1 then 6 else 7, s := 1 + (x : Int) / 128, n := ((nx l).1 : Int), b := 3 * ((nx l).1 : Int), m := 1 + 256 * ((nx (nx l).2).1 : Int) }, (nx (nx l).2).2)
  else if x % 16 = 13 then ({ k := 8 + (x : Int) / 16 % 2, n := ((nx l).1 : Int) % 16, kl := [⟨((nx l).1 : Int) / 16, ((nx (nx l).2).1 : Int)⟩] }, (nx (nx l).2).2)
  else if x % 16 = 14 then ({ k := 10 + (x : Int) / 16 % 2, n := ((nx l).1 : Int) % 16 }, (nx l).2)
  else if x % 16 = 15 then (if x / 16 % 2 = 1 then ({ k := 12, cl := [⟨pathV (nx l).1, 1 + ((nx l).1 : Int) / 128⟩] }, (nx l).2) else ({ k := 12 }, l))
  else ({ k := 1 + (x : Int) % 16 / 5, n := if 128 ≤ x then (x : Int) - 128 else 1400 }, l)

/-- what is claimed of it -/
def OneTo (w : World) (g : Nat) (Z : Nat → Prop) (r : AS × List UInt8) (e : Ending) (w' : World) : Prop :=
  ∃ a : AV, e = .returned a.val ∧ Hid (a.a = r.1) ∧ a.ok w' (fun b => w.heap.size ≤ b) ∧ NxTo w g Z r.2 w'
abbrev nxF (g : Nat) : Value := .func (.func 51) #[] #[.pointer (some ⟨g, 0, none⟩)]

theorem fit_k {k n : Int} (h : -9223372036854775808 ≤ k ∧ k < 9223372036854775808) (h' : -9223372036854775808 ≤ n ∧ n < 9223372036854775808) : AS.fit { k := k, n := n } :=
  ⟨h, by simp, h', by simp, by simp, by simp, Nat.zero_le _, Nat.zero_le _, by simp, by simp, by simp, by simp, by simp⟩
theorem ok_bare {w : World} {Z : Nat → Prop} {k n : Int} (h : -9223372036854775808 ≤ k ∧ k < 9223372036854775808) (h' : -9223372036854775808 ≤ n ∧ n < 9223372036854775808) : AV.ok w Z { a := { k := k, n := n } } :=
  ⟨Rd.nil, Rd.nil, Rd.nil, fit_k h h'⟩
/-- the world with two blocks more -/
theorem nx_two {w : World} {g : Nat} {Z : Nat → Prop} {l : List UInt8} (h : NxAt w g Z l) (o o' : Obj) : NxTo w g Z l ((w.alloc o).alloc o') :=
  ⟨(h.below ((Below.refl _ _).alloc (Nat.le_refl _) o)).below ((Below.refl _ _).alloc (Nat.le_refl _) o'), ((Fr.refl _ w).alloc o).alloc o'⟩

theorem NxTo.side {a b c : World} {g r : Nat} {Z : Nat → Prop} {l : List UInt8} (h : NxTo a g Z l b) (k : Fr (fun x => x = r) b c) (hr : a.heap.size ≤ r) (hZ : ∀ b, Z b → b < g) (hg : g < a.heap.size) : NxTo a g Z l c :=
  ⟨h.at_.fr k (by omega) (fun b _ hb e => by have := hZ b hb; omega), h.fr.trans k (fun x hx e => by omega)⟩
theorem z_not {g : Nat} {Z : Nat → Prop} (hZ : ∀ b, Z b → b < g) : ¬ Z g := fun h => by have := hZ g h; omega

set_option maxRecDepth 100000 in
set_option maxHeartbeats 1000000 in
theorem one_plain (g : Nat) (Z : Nat → Prop) (x : Nat) (hx : x < 256) (h10 : x % 16 < 10) (l : List UInt8) (w : World) (h : NxAt w g Z l) (hZ : ∀ b, Z b → b < g) :
    Calls Try.prog 52 #[.int .i64 (x : Int), nxF g] w (OneTo w g Z (oneS x l)) := by
  have _hZ := hZ
  obtain ⟨R, hR⟩ : ∃ R, R = oneS x l := ⟨_, rfl⟩
  rw [← hR]
  have HR := Lib.hid hR
  clear hR
  have H := Lib.hid h
  have hg := h.lt
  clear h
  have n10 : ((x : Int) % 16 == 10) = false := by simp; omega
  have n11 : ((x : Int) % 16 == 11) = false := by simp; omega
  have n12 : ((x : Int) % 16 == 12) = false := by simp; omega
  have n13 : ((x : Int) % 16 == 13) = false := by simp; omega
  have n14 : ((x : Int) % 16 == 14) = false := by simp; omega
  have n15 : ((x : Int) % 16 == 15) = false := by simp; omega
  by_cases h128 : 128 ≤ x
  · have q : decide ((x : Int) ≥ 128) = true := by simp; omega
    obtain rfl : R = ({ k := 1 + (x : Int) % 16 / 5, n := (x : Int) - 128 }, l) := by rw [HR.out]; unfold oneS; rw [if_neg (by omega), if_neg (by omega), if_neg (by omega), if_neg (by omega), if_neg (by omega), if_pos h128]
    go_enter Try.func52, Try.ntmps52
    go_wp2_with fail
    refine act_res (r := w.heap.size) rfl rfl rfl ((Blk.new w 57 _).alloc _) ?_
    exact ⟨{ a := { k := 1 + (x : Int) % 16 / 5, n := (x : Int) - 128 } }, rfl, rfl, ok_bare (by omega) (by omega), nx_two H.out _ _⟩
  
  · have q : decide ((x : Int) ≥ 128) = false := by simp; omega
    obtain rfl : R = ({ k := 1 + (x : Int) % 16 / 5, n := 1400 }, l) := by rw [HR.out]; unfold oneS; rw [if_neg (by omega), if_neg (by omega), if_neg (by omega), if_neg (by omega), if_neg (by omega), if_neg h128]
    go_enter Try.func52, Try.ntmps52
    go_wp2_with fail
    refine act_res (r := w.heap.size) rfl rfl rfl ((Blk.new w 57 _).alloc _) ?_
    exact ⟨{ a := { k := 1 + (x : Int) % 16 / 5, n := 1400 } }, rfl, rfl, ok_bare (by omega) (by omega), nx_two H.out _ _⟩
set_option maxRecDepth 100000 in
set_option maxHeartbeats 1000000 in
theorem one_14 (g : Nat) (Z : Nat → Prop) (x : Nat) (hx : x < 256) (h14 : x % 16 = 14) (l : List UInt8) (w : World) (h : NxAt w g Z l) (hZ : ∀ b, Z b → b < g) :
    Calls Try.prog 52 #[.int .i64 (x : Int), nxF g] w (OneTo w g Z (oneS x l)) := by
  have _hZ := hZ
  obtain ⟨R, hR⟩ : ∃ R, R = oneS x l := ⟨_, rfl⟩
  rw [← hR]
  have HR := Lib.hid hR
  clear hR
  have H := Lib.hid h
  have hg := h.lt
  clear h
  have n10 : ((x : Int) % 16 == 10) = false := by simp; omega
  have n11 : ((x : Int) % 16 == 11) = false := by simp; omega
  have n12 : ((x : Int) % 16 == 12) = false := by simp; omega
  have n13 : ((x : Int) % 16 == 13) = false := by simp; omega
  have n14 : ((x : Int) % 16 == 14) = true := by simp; omega
  have n15 : ((x : Int) % 16 == 15) = false := by simp; omega
  have hz := z_not hZ
  have hu := nx_lt l
  have HN := Lib.hid (fun W (hW : NxAt W g Z l) => next_any g Z l W hW hz)
  obtain rfl : R = ({ k := 10 + (x : Int) / 16 % 2, n := ((nx l).1 : Int) % 16 }, (nx l).2) := by rw [HR.out]; unfold oneS; rw [if_neg (by omega), if_neg (by omega), if_neg (by omega), if_pos h14]
  clear HR
  generalize nx l = u at *
  obtain ⟨u, l1⟩ := u
  dsimp only at *
  have hb1 : Below w.heap.size w (w.alloc (.cells #[.int .i64 0, .int .i64 0, .int .i64 0, .int .i64 0, .int .u32 0, .int .i64 0, .string ⟨#[]⟩, .string ⟨#[]⟩, .slice none 0 0, .slice none 0 0, .slice none 0 0] 57)) := (by repeat (first | exact Below.refl _ _ | refine Below.alloc ?_ (by simp) _ | refine Below.setCell ?_ (by simp) _ | refine Below.drew ?_))
  have hr1 := Blk.new w 57 #[.int .i64 0, .int .i64 0, .int .i64 0, .int .i64 0, .int .u32 0, .int .i64 0, .string ⟨#[]⟩, .string ⟨#[]⟩, .slice none 0 0, .slice none 0 0, .slice none 0 0]
  go_enter Try.func52, Try.ntmps52
  go_wp2_with fail
  refine (HN.out _ (H.out.below hb1)).mono ?_
  rintro e w2 ⟨rfl, h2⟩
  have hr2 := hr1.fr h2.fr (by omega)
  have r0 : w2.cell? ⟨w.heap.size, 0, none⟩ = some (.int .i64 0) := hr2.cell 0
  have z0 := hr2.frozen 0
  have r1 : w2.cell? ⟨w.heap.size, 1, none⟩ = some (.int .i64 0) := hr2.cell 1
  have z1 := hr2.frozen 1
  have r2 : w2.cell? ⟨w.heap.size, 2, none⟩ = some (.int .i64 0) := hr2.cell 2
  have z2 := hr2.frozen 2
  have r3 : w2.cell? ⟨w.heap.size, 3, none⟩ = some (.int .i64 0) := hr2.cell 3
  have z3 := hr2.frozen 3
  have r4 : w2.cell? ⟨w.heap.size, 4, none⟩ = some (.int .u32 0) := hr2.cell 4
  have z4 := hr2.frozen 4
  have r5 : w2.cell? ⟨w.heap.size, 5, none⟩ = some (.int .i64 0) := hr2.cell 5
  have z5 := hr2.frozen 5
  have r6 : w2.cell? ⟨w.heap.size, 6, none⟩ = some (.string ⟨#[]⟩) := hr2.cell 6
  have z6 := hr2.frozen 6
  have r7 : w2.cell? ⟨w.heap.size, 7, none⟩ = some (.string ⟨#[]⟩) := hr2.cell 7
  have z7 := hr2.frozen 7
  have r8 : w2.cell? ⟨w.heap.size, 8, none⟩ = some (.slice none 0 0) := hr2.cell 8
  have z8 := hr2.frozen 8
  have r9 : w2.cell? ⟨w.heap.size, 9, none⟩ = some (.slice none 0 0) := hr2.cell 9
  have z9 := hr2.frozen 9
  have r10 : w2.cell? ⟨w.heap.size, 10, none⟩ = some (.slice none 0 0) := hr2.cell 10
  have z10 := hr2.frozen 10
  go_wp2_with fail
  refine act_ret hr2 rfl rfl rfl rfl ?_
  intro V hV fV
  exact ⟨{ a := { k := 10 + (x : Int) / 16 % 2, n := (u : Int) % 16 } }, rfl, rfl, ok_bare (by omega) (by omega), (NxTo.after hb1 h2).side fV (Nat.le_refl _) hZ hg⟩

set_option maxRecDepth 100000 in
set_option maxHeartbeats 1000000 in
theorem one_15 (g : Nat) (Z : Nat → Prop) (x : Nat) (hx : x < 256) (h15 : x % 16 = 15) (l : List UInt8) (w : World) (h : NxAt w g Z l) (hZ : ∀ b, Z b → b < g) :
    Calls Try.prog 52 #[.int .i64 (x : Int), nxF g] w (OneTo w g Z (oneS x l)) := by
  have _hZ := hZ
  obtain ⟨R, hR⟩ : ∃ R, R = oneS x l := ⟨_, rfl⟩
  rw [← hR]
  have HR := Lib.hid hR
  clear hR
  have H := Lib.hid h
  have hg := h.lt
  clear h
  have n10 : ((x : Int) % 16 == 10) = false := by simp; omega
  have n11 : ((x : Int) % 16 == 11) = false := by simp; omega
  have n12 : ((x : Int) % 16 == 12) = false := by simp; omega
  have n13 : ((x : Int) % 16 == 13) = false := by simp; omega
  have n14 : ((x : Int) % 16 == 14) = false := by simp; omega
  have n15 : ((x : Int) % 16 == 15) = true := by simp; omega
  by_cases h2 : x / 16 % 2 = 1
  · have q : ((x : Int) / 16 % 2 == 1) = true := by simp; omega
    have hz := z_not hZ
    have hu := nx_lt l
    have HN := Lib.hid (fun W (hW : NxAt W g Z l) => next_any g Z l W hW hz)
    obtain rfl : R = ({ k := 12, cl := [⟨pathV (nx l).1, 1 + ((nx l).1 : Int) / 128⟩] }, (nx l).2) := by rw [HR.out]; unfold oneS; rw [if_neg (by omega), if_neg (by omega), if_neg (by omega), if_neg (by omega), if_pos h15, if_pos h2]
    clear HR
    generalize nx l = u at *
    obtain ⟨u, l1⟩ := u
    dsimp only at *
    have hP := pathV_size u
    have HP := Lib.hid (fun w => path_any u (by omega) w)
    generalize pathV u = P at *
    have hb1 : Below w.heap.size w ((w.alloc (.cells #[.int .i64 0, .int .i64 0, .int .i64 0, .int .i64 0, .int .u32 0, .int .i64 0, .string ⟨#[]⟩, .string ⟨#[]⟩, .slice none 0 0, .slice none 0 0, .slice none 0 0] 57)).alloc (.cells #[.int .i64 12, .int .i64 0, .int .i64 0, .int .i64 0, .int .u32 0, .int .i64 0, .string ⟨#[]⟩, .string ⟨#[]⟩, .slice none 0 0, .slice none 0 0, .slice none 0 0] 57)) := (by repeat (first | exact Below.refl _ _ | refine Below.alloc ?_ (by simp) _ | refine Below.setCell ?_ (by simp) _ | refine Below.drew ?_))
    have hr1 := (Blk.new w 57 #[.int .i64 0, .int .i64 0, .int .i64 0, .int .i64 0, .int .u32 0, .int .i64 0, .string ⟨#[]⟩, .string ⟨#[]⟩, .slice none 0 0, .slice none 0 0, .slice none 0 0]).alloc (.cells #[.int .i64 12, .int .i64 0, .int .i64 0, .int .i64 0, .int .u32 0, .int .i64 0, .string ⟨#[]⟩, .string ⟨#[]⟩, .slice none 0 0, .slice none 0 0, .slice none 0 0] 57)
    have ha1 := Blk.new (w.alloc (.cells #[.int .i64 0, .int .i64 0, .int .i64 0, .int .i64 0, .int .u32 0, .int .i64 0, .string ⟨#[]⟩, .string ⟨#[]⟩, .slice none 0 0, .slice none 0 0, .slice none 0 0] 57)) 57 #[.int .i64 12, .int .i64 0, .int .i64 0, .int .i64 0, .int .u32 0, .int .i64 0, .string ⟨#[]⟩, .string ⟨#[]⟩, .slice none 0 0, .slice none 0 0, .slice none 0 0]
    rw [World.size_alloc] at ha1
    go_enter Try.func52, Try.ntmps52
    go_wp2_with fail
    refine (HN.out _ (H.out.below hb1)).mono ?_
    rintro e w2 ⟨rfl, h2⟩
    have hr2 := hr1.fr h2.fr (by omega)
    have ha2 := ha1.fr h2.fr (by omega)
    have r0 : w2.cell? ⟨w.heap.size, 0, none⟩ = some (.int .i64 0) := hr2.cell 0
    have z0 := hr2.frozen 0
    have r1 : w2.cell? ⟨w.heap.size, 1, none⟩ = some (.int .i64 0) := hr2.cell 1
    have z1 := hr2.frozen 1
    have r2 : w2.cell? ⟨w.heap.size, 2, none⟩ = some (.int .i64 0) := hr2.cell 2
    have z2 := hr2.frozen 2
    have r3 : w2.cell? ⟨w.heap.size, 3, none⟩ = some (.int .i64 0) := hr2.cell 3
    have z3 := hr2.frozen 3
    have r4 : w2.cell? ⟨w.heap.size, 4, none⟩ = some (.int .u32 0) := hr2.cell 4
    have z4 := hr2.frozen 4
    have r5 : w2.cell? ⟨w.heap.size, 5, none⟩ = some (.int .i64 0) := hr2.cell 5
    have z5 := hr2.frozen 5
    have r6 : w2.cell? ⟨w.heap.size, 6, none⟩ = some (.string ⟨#[]⟩) := hr2.cell 6
    have z6 := hr2.frozen 6
    have r7 : w2.cell? ⟨w.heap.size, 7, none⟩ = some (.string ⟨#[]⟩) := hr2.cell 7
    have z7 := hr2.frozen 7
    have r8 : w2.cell? ⟨w.heap.size, 8, none⟩ = some (.slice none 0 0) := hr2.cell 8
    have z8 := hr2.frozen 8
    have r9 : w2.cell? ⟨w.heap.size, 9, none⟩ = some (.slice none 0 0) := hr2.cell 9
    have z9 := hr2.frozen 9
    have r10 : w2.cell? ⟨w.heap.size, 10, none⟩ = some (.slice none 0 0) := hr2.cell 10
    have z10 := hr2.frozen 10
    have a0 : w2.cell? ⟨(w.heap.size + 1), 0, none⟩ = some (.int .i64 12) := ha2.cell 0
    have b0 := ha2.frozen 0
    have a1 : w2.cell? ⟨(w.heap.size + 1), 1, none⟩ = some (.int .i64 0) := ha2.cell 1
    have b1 := ha2.frozen 1
    have a2 : w2.cell? ⟨(w.heap.size + 1), 2, none⟩ = some (.int .i64 0) := ha2.cell 2
    have b2 := ha2.frozen 2
    have a3 : w2.cell? ⟨(w.heap.size + 1), 3, none⟩ = some (.int .i64 0) := ha2.cell 3
    have b3 := ha2.frozen 3
    have a4 : w2.cell? ⟨(w.heap.size + 1), 4, none⟩ = some (.int .u32 0) := ha2.cell 4
    have b4 := ha2.frozen 4
    have a5 : w2.cell? ⟨(w.heap.size + 1), 5, none⟩ = some (.int .i64 0) := ha2.cell 5
    have b5 := ha2.frozen 5
    have a6 : w2.cell? ⟨(w.heap.size + 1), 6, none⟩ = some (.string ⟨#[]⟩) := ha2.cell 6
    have b6 := ha2.frozen 6
    have a7 : w2.cell? ⟨(w.heap.size + 1), 7, none⟩ = some (.string ⟨#[]⟩) := ha2.cell 7
    have b7 := ha2.frozen 7
    have a8 : w2.cell? ⟨(w.heap.size + 1), 8, none⟩ = some (.slice none 0 0) := ha2.cell 8
    have b8 := ha2.frozen 8
    have a9 : w2.cell? ⟨(w.heap.size + 1), 9, none⟩ = some (.slice none 0 0) := ha2.cell 9
    have b9 := ha2.frozen 9
    have a10 : w2.cell? ⟨(w.heap.size + 1), 10, none⟩ = some (.slice none 0 0) := ha2.cell 10
    have b10 := ha2.frozen 10
    have s1 := hr2.lt
    have s2 := ha2.lt
    go_wp2_with fail
    refine (HP.out _).mono ?_
    rintro e w3 ⟨rfl, rfl⟩
    go_wp2_with fail
    refine act_ret_new (hr2.far (p := ⟨w.heap.size + 1, 10, none⟩) (by simp) (.slice (some ⟨w2.heap.size, 0, none⟩) 1 1)) rfl rfl rfl rfl ?_
    intro V hV fV hsV
    have f1 := (Fr.refl (fun k => k = w.heap.size + 1) w2).setAt (w.heap.size + 1) 10 rfl (.slice (some ⟨w2.heap.size, 0, none⟩) 1 1)
    have hsW : w2.heap.size = V.heap.size := by rw [hsV]; simp [World.setCell]
    have hT := ((NxTo.after hb1 h2).side f1 (by omega) hZ hg).side fV (Nat.le_refl _) hZ hg
    refine ⟨{ a := { k := 12, cl := [⟨P, 1 + (u : Int) / 128⟩] }, cA := some ⟨w2.heap.size, 0, none⟩, cc := 1 }, rfl, rfl, ⟨Rd.nil, Rd.nil, (Rd.lit (xs := [.string P, .int .i64 (1 + (u : Int) / 128)]) rfl rfl hsW).mono (fun b _ hb => by omega), ?_⟩, hT.then_ ((Below.refl _ _).alloc (Nat.le_refl _) _)⟩
    have hs3 : P.size ≤ 140737488355328 := by omega
    exact ⟨by simp, by simp, by simp, by simp, by simp, by simp, Nat.zero_le _, Nat.zero_le _, by simp, by simp, by simp, by simp, by simp; omega⟩
  · have q : ((x : Int) / 16 % 2 == 1) = false := by simp; omega
    obtain rfl : R = ({ k := 12 }, l) := by rw [HR.out]; unfold oneS; rw [if_neg (by omega), if_neg (by omega), if_neg (by omega), if_neg (by omega), if_pos h15, if_neg h2]
    go_enter Try.func52, Try.ntmps52
    go_wp2_with fail
    refine act_res (r := w.heap.size) rfl rfl rfl ((Blk.new w 57 _).alloc _) ?_
    exact ⟨{ a := { k := 12 } }, rfl, rfl, ok_bare (by omega) (by omega), nx_two H.out _ _⟩

end Go.Proofs.Ytpbgcbpofhbgbaa
