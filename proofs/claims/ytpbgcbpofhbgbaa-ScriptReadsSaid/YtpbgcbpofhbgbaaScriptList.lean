/- script.read's lists: what crashes keep, and choices. -/
import Derived.Test.YtpbgcbpofhbgbaaScriptPush
import Derived.Test.YtpbgcbpofhbgbaaEyeText
import Derived.Test.YtpbgcbpofhbgbaaTwoEye
namespace Go.Proofs.Ytpbgcbpofhbgbaa
open Go.RowKit

theorem intS_le (l : List UInt8) (f : Int) (most : Nat) : (intS l f (most : Int)).1 ≤ most := by
  unfold intS
  rw [if_pos (by omega), Int.toNat_natCast]
  exact readS_le _ _ _
theorem textS_tl (l : List UInt8) (f most : Int) : (textS l f most).1.length ≤ l.length := by
  have h := intS_len l f most
  unfold textS
  dsimp only
  split
  · simp
  · split
    · simp
    · simp only [List.length_take]; omega
/-- what a crash keeps, a choice: read -/
def keepS (l : List UInt8) (f : Int) : KV × List UInt8 × Int :=
  (⟨((intS l f 1048576).1 : Int), ((intS (intS l f 1048576).2.1 (intS l f 1048576).2.2 1048576).1 : Int)⟩, (intS (intS l f 1048576).2.1 (intS l f 1048576).2.2 1048576).2)
def choS (l : List UInt8) (f : Int) : HW × List UInt8 × Int :=
  (⟨⟨(textS l f 96).1.toArray⟩, ((intS (textS l f 96).2.1 (textS l f 96).2.2 2).1 : Int)⟩, (intS (textS l f 96).2.1 (textS l f 96).2.2 2).2)
theorem keepS_len (l : List UInt8) (f : Int) : (keepS l f).2.1.length ≤ l.length := Nat.le_trans (intS_len _ _ _) (intS_len _ _ _)
theorem choS_len (l : List UInt8) (f : Int) : (choS l f).2.1.length ≤ l.length := Nat.le_trans (intS_len _ _ _) (textS_len _ _ _)
/-- so many of them -/
def listN {α : Type} (one : List UInt8 → Int → α × List UInt8 × Int) : Nat → List UInt8 → Int → List α × List UInt8 × Int
  | 0, l, f => ([], l, f)
  | n + 1, l, f => if f = 0 then ((one l f).1 :: (listN one n (one l f).2.1 (one l f).2.2).1, (listN one n (one l f).2.1 (one l f).2.2).2) else ([], l, f)
theorem listN_bad {α : Type} {one : List UInt8 → Int → α × List UInt8 × Int} {n : Nat} {l : List UInt8} {f : Int} (h : f ≠ 0) : listN one n l f = ([], l, f) := by
  cases n
  · rfl
  · rw [listN, if_neg h]
theorem listN_ok {α : Type} {one : List UInt8 → Int → α × List UInt8 × Int} {n : Nat} {l : List UInt8} : listN one (n + 1) l 0 = ((one l 0).1 :: (listN one n (one l 0).2.1 (one l 0).2.2).1, (listN one n (one l 0).2.1 (one l 0).2.2).2) := by rw [listN, if_pos rfl]
def listS {α : Type} (one : List UInt8 → Int → α × List UInt8 × Int) (l : List UInt8) (f : Int) : List α × List UInt8 × Int :=
  listN one (intS l f 8).1 (intS l f 8).2.1 (intS l f 8).2.2
theorem listN_len {α : Type} {one : List UInt8 → Int → α × List UInt8 × Int} (h1 : ∀ l f, (one l f).2.1.length ≤ l.length) : ∀ (n : Nat) (l : List UInt8) (f : Int), (listN one n l f).1.length ≤ n ∧ (listN one n l f).2.1.length ≤ l.length
  | 0, l, f => ⟨Nat.le_refl _, Nat.le_refl _⟩
  | n + 1, l, f => by
    rw [listN]
    split
    · have h2 := listN_len h1 n (one l f).2.1 (one l f).2.2
      have h3 := h1 l f
      exact ⟨by simp; omega, by dsimp only; omega⟩
    · exact ⟨by simp, Nat.le_refl _⟩
theorem listN_all {α : Type} {one : List UInt8 → Int → α × List UInt8 × Int} {P : α → Prop} {K : Nat} (h1 : ∀ l f, l.length ≤ K → P (one l f).1) (h2 : ∀ l f, (one l f).2.1.length ≤ l.length) : ∀ (n : Nat) (l : List UInt8) (f : Int), l.length ≤ K → ∀ a ∈ (listN one n l f).1, P a
  | 0, l, f, _, a, h => by simp [listN] at h
  | n + 1, l, f, hl, a, h => by
    rw [listN] at h
    split at h
    · rcases List.mem_cons.1 h with rfl | h
      · exact h1 _ _ hl
      · exact listN_all h1 h2 n _ _ (Nat.le_trans (h2 _ _) hl) a h
    · simp at h
/-- a box of the call's own, one cell stored -/
theorem box_set {w w1 : World} {T eb bx t o : Nat} {Y : Nat → Prop} {L : List UInt8} {f : Int} {cs : Array Value} (ht : EyeTo w T eb Y L f w1) (hb : Blk w1 bx t cs) (h1 : w.heap.size ≤ bx) (h2 : bx ≠ eb) (h3 : ∀ x, Y x → x ≠ bx) (u : Value) :
    EyeTo w T eb Y L f (w1.setCell ⟨bx, o, none⟩ u) ∧ Blk (w1.setCell ⟨bx, o, none⟩ u) bx t (cs.setIfInBounds o u) ∧ Fr (fun x => x = bx) w1 (w1.setCell ⟨bx, o, none⟩ u) :=
  have k : Fr (fun x => x = bx) w1 (w1.setCell ⟨bx, o, none⟩ u) := (Fr.refl (fun x => x = bx) w1).setAt bx o rfl _
  ⟨ht.side k h1 h2 h3, hb.set_ o u, k⟩

set_option maxRecDepth 100000 in
set_option maxHeartbeats 1000000 in
theorem read1_any (eb tb : Nat) (Z : Nat → Prop) (A : Option Addr) (c : Nat) (l : List UInt8) (f : Int) (w : World) (h : EyeAt w 132 eb Z A c l f) (hZ : ∀ b, Z b → b < eb) (ht : w.cell? ⟨tb, 0, none⟩ = some (.pointer (some ⟨eb, 0, none⟩))) (hne : tb ≠ eb) (hl : l.length ≤ 140737488355328) :
    Calls Try.prog 91 #[.pointer (some ⟨tb, 0, none⟩)] w fun e w' => e = .returned (.agg #[.int .i64 (keepS l f).1.f, .int .i64 (keepS l f).1.b]) ∧ EyeTo w 132 eb Z (keepS l f).2.1 (keepS l f).2.2 w' := by
  have hz : ¬ Z eb := fun h => by have := hZ _ h; omega
  have hlt := h.1.lt
  have htl := World.block_lt_of_cell? w ⟨tb, 0, none⟩ ht
  simp only at htl
  obtain ⟨n1, L1, f1, e1⟩ : ∃ n1 L1 f1, intS l f 1048576 = (n1, L1, f1) := ⟨_, _, _, rfl⟩
  obtain ⟨n2, L2, f2, e2⟩ : ∃ n2 L2 f2, intS L1 f1 1048576 = (n2, L2, f2) := ⟨_, _, _, rfl⟩
  have hk : keepS l f = (⟨(n1 : Int), (n2 : Int)⟩, L2, f2) := by unfold keepS; rw [e1]; dsimp only; rw [e2]
  rw [hk]
  clear hk
  have H1 := Lib.hid (fun W A c h => int_any eb Z A c l f 1048576 W h hz (by omega))
  have H2 := Lib.hid (fun W A c h => int_any eb Z A c L1 f1 1048576 W h hz (by omega))
  rw [e1] at H1
  rw [e2] at H2
  clear e1 e2
  have bx0 := Blk.new w 91 #[.int .i64 0, .int .i64 0]
  have hlow0 : Below w.heap.size w (w.alloc (.cells #[.int .i64 0, .int .i64 0] 91)) := (by repeat (first | exact Below.refl _ _ | refine Below.alloc ?_ (by simp) _ | refine Below.setCell ?_ (by simp) _ | refine Below.drew ?_))
  have hnt : ¬ w.heap.size = tb := by omega
  have hnt2 : ¬ tb = w.heap.size := by omega
  have hzw : ∀ x, Z x → x ≠ w.heap.size := fun x hx e => by have := hZ x hx; omega
  go_enter Try.func91, Try.ntmps91
  go_wp2_with fail
  refine (H1.out _ A c (h.below hlow0)).mono ?_
  rintro e w1 ⟨rfl, h1⟩
  have bx1 := bx0.fr h1.fr (by omega)
  have q0 : w1.cell? ⟨w.heap.size, 0, none⟩ = some (.int .i64 0) := bx1.cell 0
  have z0 := bx1.frozen 0
  have u1 := keep1 (cellAt hlow0 htl ht) h1 hne
  go_wp2_with fail
  have ht1 := EyeTo.after hlow0 h1
  obtain ⟨ht2, bx2, hf2⟩ := box_set (o := 0) ht1 bx1 (Nat.le_refl _) (by omega) hzw (.int .i64 (n1 : Int))
  have u2 : (w1.setCell ⟨w.heap.size, 0, none⟩ (.int .i64 (n1 : Int))).cell? ⟨tb, 0, none⟩ = some (.pointer (some ⟨eb, 0, none⟩)) := (hf2.cell (p := ⟨tb, 0, none⟩) (World.block_lt_of_cell? _ _ u1) (by simpa using hnt2)).trans u1
  generalize w1.setCell ⟨w.heap.size, 0, none⟩ (.int .i64 (n1 : Int)) = W2 at *
  obtain ⟨A2, c2, ha2⟩ := ht2.at_
  refine (H2.out _ A2 c2 ha2).mono ?_
  rintro e w3 ⟨rfl, h3⟩
  have bx3 := bx2.fr h3.fr (by omega)
  have p0 := bx3.cell 0
  have p1 := bx3.cell 1
  simp at p0 p1
  have y0 := bx3.frozen 0
  have y1 := bx3.frozen 1
  go_wp2_with fail
  have bv := ((bx3.set_ 1 (.int .i64 (n2 : Int))).set_ 0 (.int .i64 (n1 : Int))).set_ 1 (.int .i64 (n2 : Int))
  simp only [List.setIfInBounds_toArray, List.set_cons_zero, List.set_cons_succ] at bv
  have fv := (((Fr.refl (fun x => x = w.heap.size) w3).setAt w.heap.size 1 rfl (.int .i64 (n2 : Int))).setAt w.heap.size 0 rfl (.int .i64 (n1 : Int))).setAt w.heap.size 1 rfl (.int .i64 (n2 : Int))
  have ht4 := (ht2.trans h3).side fv (Nat.le_refl _) (by omega) hzw
  generalize ((w3.setCell ⟨w.heap.size, 1, none⟩ (.int .i64 (n2 : Int))).setCell ⟨w.heap.size, 0, none⟩ (.int .i64 (n1 : Int))).setCell ⟨w.heap.size, 1, none⟩ (.int .i64 (n2 : Int)) = V at *
  have d0 : V.cell? ⟨w.heap.size, 0, none⟩ = some (.int .i64 (n1 : Int)) := bv.cell 0
  have d1 : V.cell? ⟨w.heap.size, 1, none⟩ = some (.int .i64 (n2 : Int)) := bv.cell 1
  refine bodyPost_ret (v := .agg #[.int .i64 (n1 : Int), .int .i64 (n2 : Int)]) (by simp [results, Try.results91, go_sem, d0, d1]) rfl ?_
  exact ⟨rfl, ht4⟩
set_option maxRecDepth 100000 in
set_option maxHeartbeats 1000000 in
theorem read2_any (eb tb : Nat) (Z : Nat → Prop) (A : Option Addr) (c : Nat) (l : List UInt8) (f : Int) (w : World) (h : EyeAt w 132 eb Z A c l f) (hZ : ∀ b, Z b → b < eb) (ht : w.cell? ⟨tb, 0, none⟩ = some (.pointer (some ⟨eb, 0, none⟩))) (hne : tb ≠ eb) (hl : l.length ≤ 140737488355328) :
    Calls Try.prog 93 #[.pointer (some ⟨tb, 0, none⟩)] w fun e w' => e = .returned (.agg #[.string (choS l f).1.p, .int .i64 (choS l f).1.w]) ∧ EyeTo w 132 eb Z (choS l f).2.1 (choS l f).2.2 w' := by
  have hz : ¬ Z eb := fun h => by have := hZ _ h; omega
  have hlt := h.1.lt
  have htl := World.block_lt_of_cell? w ⟨tb, 0, none⟩ ht
  simp only at htl
  obtain ⟨n1, L1, f1, e1⟩ : ∃ n1 L1 f1, textS l f 96 = (n1, L1, f1) := ⟨_, _, _, rfl⟩
  obtain ⟨n2, L2, f2, e2⟩ : ∃ n2 L2 f2, intS L1 f1 2 = (n2, L2, f2) := ⟨_, _, _, rfl⟩
  have hk : choS l f = (⟨⟨n1.toArray⟩, (n2 : Int)⟩, L2, f2) := by unfold choS; rw [e1]; dsimp only; rw [e2]
  rw [hk]
  clear hk
  have hn1 := textS_tl l f 96
  have hl1 := textS_len l f 96
  rw [e1] at hn1 hl1
  dsimp only at hn1 hl1
  have H1 := Lib.hid (fun W A c h => text_any eb Z A c l f 96 W h hz (by omega) (by omega))
  have H2 := Lib.hid (fun W A c h => int_any eb Z A c L1 f1 2 W h hz (by omega))
  rw [e1] at H1
  rw [e2] at H2
  clear e1 e2
  have bx0 := Blk.new w 95 #[.string ⟨#[]⟩, .int .i64 0]
  have hlow0 : Below w.heap.size w (w.alloc (.cells #[.string ⟨#[]⟩, .int .i64 0] 95)) := (by repeat (first | exact Below.refl _ _ | refine Below.alloc ?_ (by simp) _ | refine Below.setCell ?_ (by simp) _ | refine Below.drew ?_))
  have hnt : ¬ w.heap.size = tb := by omega
  have hnt2 : ¬ tb = w.heap.size := by omega
  have hzw : ∀ x, Z x → x ≠ w.heap.size := fun x hx e => by have := hZ x hx; omega
  go_enter Try.func93, Try.ntmps93
  go_wp2_with fail
  refine (H1.out _ A c (h.below hlow0)).mono ?_
  rintro e w1 ⟨A1, c1, t1, rfl, ht1, ho1, h1⟩
  obtain rfl := ht1.out
  have k1 := conv_by ho1.rd c1
  have hsm : t1.length ≤ 140737488355328 := by omega
  have bx1 := bx0.fr h1.fr (by omega)
  have q0 : w1.cell? ⟨w.heap.size, 0, none⟩ = some (.string ⟨#[]⟩) := bx1.cell 0
  have z0 := bx1.frozen 0
  have u1 := keep1 (cellAt hlow0 htl ht) h1 hne
  go_wp2_with fail
  have ht1 := EyeTo.after hlow0 h1
  obtain ⟨ht2, bx2, hf2⟩ := box_set (o := 0) ht1 bx1 (Nat.le_refl _) (by omega) hzw (.string ⟨t1.toArray⟩)
  have u2 : (w1.setCell ⟨w.heap.size, 0, none⟩ (.string ⟨t1.toArray⟩)).cell? ⟨tb, 0, none⟩ = some (.pointer (some ⟨eb, 0, none⟩)) := (hf2.cell (p := ⟨tb, 0, none⟩) (World.block_lt_of_cell? _ _ u1) (by simpa using hnt2)).trans u1
  generalize w1.setCell ⟨w.heap.size, 0, none⟩ (.string ⟨t1.toArray⟩) = W2 at *
  obtain ⟨A2, c2, ha2⟩ := ht2.at_
  refine (H2.out _ A2 c2 ha2).mono ?_
  rintro e w3 ⟨rfl, h3⟩
  have bx3 := bx2.fr h3.fr (by omega)
  have p0 := bx3.cell 0
  have p1 := bx3.cell 1
  simp at p0 p1
  have y0 := bx3.frozen 0
  have y1 := bx3.frozen 1
  go_wp2_with fail
  have bv := ((bx3.set_ 1 (.int .i64 (n2 : Int))).set_ 0 (.string ⟨t1.toArray⟩)).set_ 1 (.int .i64 (n2 : Int))
  simp only [List.setIfInBounds_toArray, List.set_cons_zero, List.set_cons_succ] at bv
  have fv := (((Fr.refl (fun x => x = w.heap.size) w3).setAt w.heap.size 1 rfl (.int .i64 (n2 : Int))).setAt w.heap.size 0 rfl (.string ⟨t1.toArray⟩)).setAt w.heap.size 1 rfl (.int .i64 (n2 : Int))
  have ht4 := (ht2.trans h3).side fv (Nat.le_refl _) (by omega) hzw
  generalize ((w3.setCell ⟨w.heap.size, 1, none⟩ (.int .i64 (n2 : Int))).setCell ⟨w.heap.size, 0, none⟩ (.string ⟨t1.toArray⟩)).setCell ⟨w.heap.size, 1, none⟩ (.int .i64 (n2 : Int)) = V at *
  have d0 : V.cell? ⟨w.heap.size, 0, none⟩ = some (.string ⟨t1.toArray⟩) := bv.cell 0
  have d1 : V.cell? ⟨w.heap.size, 1, none⟩ = some (.int .i64 (n2 : Int)) := bv.cell 1
  refine bodyPost_ret (v := .agg #[.string ⟨t1.toArray⟩, .int .i64 (n2 : Int)]) (by simp [results, Try.results93, go_sem, d0, d1]) rfl ?_
  exact ⟨rfl, ht4⟩
end Go.Proofs.Ytpbgcbpofhbgbaa
