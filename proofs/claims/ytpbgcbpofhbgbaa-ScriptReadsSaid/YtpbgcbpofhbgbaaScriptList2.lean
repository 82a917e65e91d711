/- script.list: what crashes keep, and choices, as many as it says. -/
import Derived.Test.YtpbgcbpofhbgbaaScriptList
namespace Go.Proofs.Ytpbgcbpofhbgbaa
open Go.RowKit

theorem EyeTo.row {a b c : World} {T eb : Nat} {Z : Nat → Prop} {l : List UInt8} {f : Int} {B : Option Nat} (h : EyeTo a T eb Z l f b) (k : Fr (fun x => B = some x) b c) (hB : ∀ x, B = some x → a.heap.size ≤ x) (he : eb < a.heap.size) (hz : ∀ x, Z x → x < a.heap.size) : EyeTo a T eb Z l f c := by
  obtain ⟨A, c', ha⟩ := h.at_
  exact ⟨⟨A, c', ha.fr k (fun e => by have := hB _ e; omega) (fun x _ hx e => by have := hB _ e; have := hz x hx; omega)⟩, h.fr.trans k (fun x hx e => by have := hB _ e; omega)⟩
theorem kv_one (l : List KV) : ∀ u ∈ l.flatMap KV.cells, u.oneCell' = true := by
  intro u hu
  obtain ⟨x, _, hx⟩ := List.mem_flatMap.1 hu
  simp only [KV.cells, List.mem_cons, List.not_mem_nil, or_false] at hx
  rcases hx with rfl | rfl <;> rfl
theorem hw_one (l : List HW) : ∀ u ∈ l.flatMap HW.cells, u.oneCell' = true := by
  intro u hu
  obtain ⟨x, _, hx⟩ := List.mem_flatMap.1 hu
  simp only [HW.cells, List.mem_cons, List.not_mem_nil, or_false] at hx
  rcases hx with rfl | rfl <;> rfl
theorem kv_info : (Try.prog.info? 91).map (fun i => (i.zero, i.size, i.bytes)) = some (some (.agg #[.int .i64 0, .int .i64 0]), 2, 16) := by kernel_rfl
theorem hw_info : (Try.prog.info? 95).map (fun i => (i.zero, i.size, i.bytes)) = some (some (.agg #[.string ⟨#[]⟩, .int .i64 0]), 2, 24) := by kernel_rfl
def slLen : Value → Nat | .slice _ n _ => n | _ => 0


set_option maxRecDepth 100000 in
set_option maxHeartbeats 1000000 in
theorem list1_any (eb tb : Nat) (Z : Nat → Prop) (A : Option Addr) (c : Nat) (l : List UInt8) (f : Int) (w : World) (h : EyeAt w 132 eb Z A c l f) (hZ : ∀ b, Z b → b < eb) (ht : w.cell? ⟨tb, 0, none⟩ = some (.pointer (some ⟨eb, 0, none⟩))) (hne : tb ≠ eb) (hl : l.length ≤ 140737488355328) :
    Calls Try.prog 90 #[.pointer (some ⟨eb, 0, none⟩), .func (.func 91) #[] #[.pointer (some ⟨tb, 0, none⟩)]] w fun e w' => ∃ (B : Option Addr) (d : Nat) (s : List KV), e = .returned (.slice B s.length d) ∧ Hid (s = (listS keepS l f).1) ∧ Rd w' (fun b => w.heap.size ≤ b) 2 B s.length (s.flatMap KV.cells) ∧ EyeTo w 132 eb Z (listS keepS l f).2.1 (listS keepS l f).2.2 w' := by
  have hz : ¬ Z eb := fun h => by have := hZ _ h; omega
  have hlt := h.1.lt
  have htl := World.block_lt_of_cell? w ⟨tb, 0, none⟩ ht
  simp only at htl
  obtain ⟨R, hR⟩ : ∃ R, R = listS keepS l f := ⟨_, rfl⟩
  rw [← hR]
  have hn8 := intS_le l f 8
  have hl0 := intS_len l f 8
  have H1 := Lib.hid (int_any eb Z A c l f 8 w h hz (by omega))
  unfold listS at hR
  generalize intS l f 8 = r0 at *
  obtain ⟨n0, L0, f0⟩ := r0
  dsimp only at *
  have HR := Lib.hid hR
  clear hR
  obtain ⟨i0, hi0, hz0, hz1, hz2⟩ := info_parts kv_info
  go_enter Try.func90, Try.ntmps90
  go_wp2_with fail
  refine H1.out.mono ?_
  rintro e w1 ⟨rfl, h1⟩
  dsimp only at h1
  clear H1
  go_wp2_with fail
  go_loopw [4, 5] (fun ov nv wr => ∃ (s : List KV) (B : Option Addr) (d j : Nat) (L : List UInt8) (g : Int), ov = .slice B s.length d ∧ nv = .int .i64 (j : Int) ∧ Row wr w.heap.size 91 2 B s.length d (s.flatMap KV.cells) ∧ EyeTo w 132 eb Z L g wr ∧ Hid (listN keepS n0 L0 f0 = (s ++ (listN keepS j L g).1, (listN keepS j L g).2)) ∧ s.length + j ≤ 8 ∧ L.length ≤ l.length) (fun _ nv _ => (intOf nv).toNat)
  case atStart => exact ⟨[], none, 0, n0, L0, f0, rfl, rfl, Row.none_ _ _ _ _, h1, by show _ = _; simp, by simp; omega, hl0⟩
  case round =>
    obtain ⟨s, B, d, j, L, g, rfl, rfl, hrow, hE, hL, hj, hLl⟩ := hrel
    obtain ⟨AE, cE, hA⟩ := hE.at_
    have hBe : ablk B ≠ some eb := hrow.ne_blk hA.1 (by decide)
    have hBl := hrow.lt
    have hsz := hE.fr.size
    rcases j with _ | j
    · have hRe : R = (s, L, g) := by rw [HR.out, hL.out]; simp [listN]
      obtain rfl := hRe
      clear HR hL
      go_wp2_with fail
      go_ret
      exact ⟨B, d, s, rfl, rfl, hrow.rd.mono (fun b _ hb => (hBl b hb).1), hE⟩
    · have HF := Lib.hid (fault_any eb Z AE cE L g wr hA)
      by_cases hg : g = 0
      · subst hg
        have HRD := Lib.hid (read1_any eb tb Z AE cE L 0 wr hA hZ (keep1 ht hE hne) hne (by omega))
        have hkl := keepS_len L 0
        have hL2 : Hid (listN keepS n0 L0 f0 = ((s ++ [(keepS L 0).1]) ++ (listN keepS j (keepS L 0).2.1 (keepS L 0).2.2).1, (listN keepS j (keepS L 0).2.1 (keepS L 0).2.2).2)) := by
          show _ = _
          rw [hL.out, listN_ok]
          simp
        generalize keepS L 0 = r at *
        obtain ⟨x, L2, f2⟩ := r
        dsimp only at *
        clear hL
        go_wp2_with (first | (go_at_call 63; refine HF.out.mono ?_; rintro e w2 ⟨rfl, rfl⟩))
        refine HRD.out.mono ?_
        rintro e w3 ⟨rfl, h3⟩
        have hE3 := hE.trans h3
        have row3 := hrow.fr h3.fr (fun g hg e => hBe (by rw [hg, e]))
        have hs3 := h3.fr.size
        have hone := kv_one [x]
        simp only [List.flatMap_cons, List.flatMap_nil, List.append_nil] at hone
        clear HRD HF h3
        go_wp2_with (at_builtin; refine wpList_append_row _ rfl (.tmp 17) (.tmp 20) 54 rfl w.heap.size 91 i0 _ 2 16 Try.underlying54 hi0 hz0 hz1 hz2 rfl (by omega) rfl (row3.alloc _) rfl (Rd.lit (xs := x.cells) (n := 1) rfl rfl rfl) hone (by simp only [maxLen]; omega) (by omega) (by rw [World.size_alloc]; omega) ?_; intro B4 d4 w4 hrow4 hg4 hat4)
        have fr4 := Fr.of_grown hg4 (S := fun k => ablk B = some k) (fun k _ e => e)
        have hE4 := (hE3.then_ (c := w3.alloc (.cells #[.int .i64 x.f, .int .i64 x.b] 91)) (by repeat (first | exact Below.refl _ _ | refine Below.alloc ?_ (by simp) _ | refine Below.setCell ?_ (by simp) _ | refine Below.drew ?_))).row (B := ablk B) fr4 (fun k e => (hBl k e).1) hlt (fun b hb => by have := hZ b hb; omega)
        go_roundw
        case rel =>
          refine ⟨s ++ [x], B4, d4, j, L2, f2, by simp, by go_num, ?_, hE4, hL2, by simp; omega, by omega⟩
          rw [List.length_append, List.flatMap_append, List.flatMap_cons, List.flatMap_nil, List.append_nil]
          exact hrow4
        case measure => simp [intOf]
      · have hgb : (g == 0) = false := by simpa using hg
        have hRe : R = (s, L, g) := by rw [HR.out, hL.out, listN_bad hg]; simp
        obtain rfl := hRe
        clear HR hL
        go_wp2_with (first | (go_at_call 63; refine HF.out.mono ?_; rintro e w2 ⟨rfl, rfl⟩))
        go_ret
        exact ⟨B, d, s, rfl, rfl, hrow.rd.mono (fun b _ hb => (hBl b hb).1), hE⟩


set_option maxRecDepth 100000 in
set_option maxHeartbeats 1000000 in
theorem list2_any (eb tb : Nat) (Z : Nat → Prop) (A : Option Addr) (c : Nat) (l : List UInt8) (f : Int) (w : World) (h : EyeAt w 132 eb Z A c l f) (hZ : ∀ b, Z b → b < eb) (ht : w.cell? ⟨tb, 0, none⟩ = some (.pointer (some ⟨eb, 0, none⟩))) (hne : tb ≠ eb) (hl : l.length ≤ 140737488355328) :
    Calls Try.prog 92 #[.pointer (some ⟨eb, 0, none⟩), .func (.func 93) #[] #[.pointer (some ⟨tb, 0, none⟩)]] w fun e w' => ∃ (B : Option Addr) (d : Nat) (s : List HW), e = .returned (.slice B s.length d) ∧ Hid (s = (listS choS l f).1) ∧ Rd w' (fun b => w.heap.size ≤ b) 2 B s.length (s.flatMap HW.cells) ∧ EyeTo w 132 eb Z (listS choS l f).2.1 (listS choS l f).2.2 w' := by
  have hz : ¬ Z eb := fun h => by have := hZ _ h; omega
  have hlt := h.1.lt
  have htl := World.block_lt_of_cell? w ⟨tb, 0, none⟩ ht
  simp only at htl
  obtain ⟨R, hR⟩ : ∃ R, R = listS choS l f := ⟨_, rfl⟩
  rw [← hR]
  have hn8 := intS_le l f 8
  have hl0 := intS_len l f 8
  have H1 := Lib.hid (int_any eb Z A c l f 8 w h hz (by omega))
  unfold listS at hR
  generalize intS l f 8 = r0 at *
  obtain ⟨n0, L0, f0⟩ := r0
  dsimp only at *
  have HR := Lib.hid hR
  clear hR
  obtain ⟨i0, hi0, hz0, hz1, hz2⟩ := info_parts hw_info
  go_enter Try.func92, Try.ntmps92
  go_wp2_with fail
  refine H1.out.mono ?_
  rintro e w1 ⟨rfl, h1⟩
  dsimp only at h1
  clear H1
  go_wp2_with fail
  go_loopw [4, 5] (fun ov nv wr => ∃ (s : List HW) (B : Option Addr) (d j : Nat) (L : List UInt8) (g : Int), ov = .slice B s.length d ∧ nv = .int .i64 (j : Int) ∧ Row wr w.heap.size 95 2 B s.length d (s.flatMap HW.cells) ∧ EyeTo w 132 eb Z L g wr ∧ Hid (listN choS n0 L0 f0 = (s ++ (listN choS j L g).1, (listN choS j L g).2)) ∧ s.length + j ≤ 8 ∧ L.length ≤ l.length) (fun _ nv _ => (intOf nv).toNat)
  case atStart => exact ⟨[], none, 0, n0, L0, f0, rfl, rfl, Row.none_ _ _ _ _, h1, by show _ = _; simp, by simp; omega, hl0⟩
  case round =>
    obtain ⟨s, B, d, j, L, g, rfl, rfl, hrow, hE, hL, hj, hLl⟩ := hrel
    obtain ⟨AE, cE, hA⟩ := hE.at_
    have hBe : ablk B ≠ some eb := hrow.ne_blk hA.1 (by decide)
    have hBl := hrow.lt
    have hsz := hE.fr.size
    rcases j with _ | j
    · have hRe : R = (s, L, g) := by rw [HR.out, hL.out]; simp [listN]
      obtain rfl := hRe
      clear HR hL
      go_wp2_with fail
      go_ret
      exact ⟨B, d, s, rfl, rfl, hrow.rd.mono (fun b _ hb => (hBl b hb).1), hE⟩
    · have HF := Lib.hid (fault_any eb Z AE cE L g wr hA)
      by_cases hg : g = 0
      · subst hg
        have HRD := Lib.hid (read2_any eb tb Z AE cE L 0 wr hA hZ (keep1 ht hE hne) hne (by omega))
        have hkl := choS_len L 0
        have hL2 : Hid (listN choS n0 L0 f0 = ((s ++ [(choS L 0).1]) ++ (listN choS j (choS L 0).2.1 (choS L 0).2.2).1, (listN choS j (choS L 0).2.1 (choS L 0).2.2).2)) := by
          show _ = _
          rw [hL.out, listN_ok]
          simp
        generalize choS L 0 = r at *
        obtain ⟨x, L2, f2⟩ := r
        dsimp only at *
        clear hL
        go_wp2_with (first | (go_at_call 63; refine HF.out.mono ?_; rintro e w2 ⟨rfl, rfl⟩))
        refine HRD.out.mono ?_
        rintro e w3 ⟨rfl, h3⟩
        have hE3 := hE.trans h3
        have row3 := hrow.fr h3.fr (fun g hg e => hBe (by rw [hg, e]))
        have hs3 := h3.fr.size
        have hone := hw_one [x]
        simp only [List.flatMap_cons, List.flatMap_nil, List.append_nil] at hone
        clear HRD HF h3
        go_wp2_with (at_builtin; refine wpList_append_row _ rfl (.tmp 17) (.tmp 20) 55 rfl w.heap.size 95 i0 _ 2 24 Try.underlying55 hi0 hz0 hz1 hz2 rfl (by omega) rfl (row3.alloc _) rfl (Rd.lit (xs := x.cells) (n := 1) rfl rfl rfl) hone (by simp only [maxLen]; omega) (by omega) (by rw [World.size_alloc]; omega) ?_; intro B4 d4 w4 hrow4 hg4 hat4)
        have fr4 := Fr.of_grown hg4 (S := fun k => ablk B = some k) (fun k _ e => e)
        have hE4 := (hE3.then_ (c := w3.alloc (.cells #[.string x.p, .int .i64 x.w] 95)) (by repeat (first | exact Below.refl _ _ | refine Below.alloc ?_ (by simp) _ | refine Below.setCell ?_ (by simp) _ | refine Below.drew ?_))).row (B := ablk B) fr4 (fun k e => (hBl k e).1) hlt (fun b hb => by have := hZ b hb; omega)
        go_roundw
        case rel =>
          refine ⟨s ++ [x], B4, d4, j, L2, f2, by simp, by go_num, ?_, hE4, hL2, by simp; omega, by omega⟩
          rw [List.length_append, List.flatMap_append, List.flatMap_cons, List.flatMap_nil, List.append_nil]
          exact hrow4
        case measure => simp [intOf]
      · have hgb : (g == 0) = false := by simpa using hg
        have hRe : R = (s, L, g) := by rw [HR.out, hL.out, listN_bad hg]; simp
        obtain rfl := hRe
        clear HR hL
        go_wp2_with (first | (go_at_call 63; refine HF.out.mono ?_; rintro e w2 ⟨rfl, rfl⟩))
        go_ret
        exact ⟨B, d, s, rfl, rfl, hrow.rd.mono (fun b _ hb => (hBl b hb).1), hE⟩

end Go.Proofs.Ytpbgcbpofhbgbaa
