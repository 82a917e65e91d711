/- tree.Tree: get, Get, Len. -/
import Derived.Test.YtdnljmncdbcgeaaGreatA04
import Derived.Maps.OwnSet

namespace Go.Proofs.YtdnljmncdbcgeaaGreat
open Go.RowKit Go.Maps

/-- a leaf, or none -/
def leafO : Option LV → Value
  | some o => o.v
  | none => .agg #[.int .i64 0, .slice none 0 0]
theorem leaf_zero (w : World) : (zeroValue 25).run Tryz.prog w = .ok (.agg #[.int .i64 0, .slice none 0 0]) w := by kernel_rfl
theorem str_keyed : Keyed Tryz.prog 9 := string_keyed Tryz.underlying9
/-- what is looked up in a tree's map -/
theorem TreeAt.look {w : World} {tb : Nat} {mo : Option Nat} {L : List (List UInt8 × LV)} (h : TreeAt w tb mo L) (p : List UInt8) (hp : p.length ≤ maxLen) :
    (Instr.lookup 86 (.map mo) (.string ⟨⟨p⟩⟩) false).run Tryz.prog w = .ok (leafO (getR L p)) w := by
  rcases h.map with ⟨rfl, rfl⟩ | ⟨mb, rfl, hm⟩
  · exact Maps.look_nil false str_keyed Tryz.underlying86 (leaf_zero w) (Go.WideMaps.keyOf_string_mk Tryz.underlying9 (s := ⟨⟨p⟩⟩) hp)
  · rw [hm.look Tryz.underlying9 Tryz.underlying86 (leaf_zero w) p hp, get_mapL]
    rcases getR L p with _ | o <;> rfl
theorem TreeAt.look_ok {w : World} {tb : Nat} {mo : Option Nat} {L : List (List UInt8 × LV)} (h : TreeAt w tb mo L) (p : List UInt8) (hp : p.length ≤ maxLen) :
    (Instr.lookup 86 (.map mo) (.string ⟨⟨p⟩⟩) true).run Tryz.prog w = .ok (.tuple #[leafO (getR L p), .bool (getR L p).isSome]) w := by
  rcases h.map with ⟨rfl, rfl⟩ | ⟨mb, rfl, hm⟩
  · exact Maps.look_nil true str_keyed Tryz.underlying86 (leaf_zero w) (Go.WideMaps.keyOf_string_mk Tryz.underlying9 (s := ⟨⟨p⟩⟩) hp)
  · rw [hm.look_ok Tryz.underlying9 Tryz.underlying86 (leaf_zero w) p hp, get_mapL]
    rcases getR L p with _ | o <;> rfl
theorem TreeAt.count {w : World} {tb : Nat} {mo : Option Nat} {L : List (List UInt8 × LV)} (h : TreeAt w tb mo L) (ty : TypeId) :
    (Builtin.len_ #[86] ty #[.map mo]).run Tryz.prog w = .ok (.int .i64 L.length) w := by
  rcases h.map with ⟨rfl, rfl⟩ | ⟨mb, rfl, hm⟩
  · exact Maps.len_nil Tryz.underlying86 ty
  · rw [hm.count Tryz.underlying9 Tryz.underlying86 ty]
    simp [mapL]

set_option maxHeartbeats 400000 in
theorem treeget_any (tb : Nat) (mo : Option Nat) (L : List (List UInt8 × LV)) (p : List UInt8) (w : World) (h : TreeAt w tb mo L) (hp : p.length ≤ 140737488355328) :
    Calls Tryz.prog 117 #[.pointer (some ⟨tb, 0, none⟩), .string ⟨⟨p⟩⟩] w fun e w' => e = .returned (leafO (getR L p)) ∧ Below w.heap.size w w' := by
  have hb0 : Below w.heap.size w (w.alloc (.cells #[.int .i64 0, .slice none 0 0] 25)) := (by repeat (first | exact Below.refl _ _ | refine Below.alloc ?_ (by simp) _ | refine Below.setCell ?_ (by simp) _ | refine Below.drew ?_))
  have h0 := h.below hb0
  have c0 := h0.c0
  have hl := h0.look p (by simp only [maxLen]; omega)
  clear h h0
  generalize getR L p = o at *
  rcases o with _ | ⟨k, A, c, l⟩
  · unfold leafO at hl ⊢
    go_enter Tryz.func117, Tryz.ntmps117
    go_wp2_with fail
    refine bodyPost_ret (v := .agg #[.int .i64 0, .slice none 0 0]) (by simp [results, Tryz.results117, go_sem]) rfl ?_
    exact ⟨rfl, (by repeat (first | exact Below.refl _ _ | refine Below.alloc ?_ (by simp) _ | refine Below.setCell ?_ (by simp) _ | refine Below.drew ?_))⟩
  · unfold leafO LV.v at hl ⊢
    dsimp only at hl ⊢
    go_enter Tryz.func117, Tryz.ntmps117
    go_wp2_with fail
    refine bodyPost_ret (v := .agg #[.int .i64 k, .slice A l.length c]) (by simp [results, Tryz.results117, go_sem]) rfl ?_
    exact ⟨rfl, (by repeat (first | exact Below.refl _ _ | refine Below.alloc ?_ (by simp) _ | refine Below.setCell ?_ (by simp) _ | refine Below.drew ?_))⟩

/-- a leaf told to a caller: of his own -/
def LeafOwn (w : World) (base : Nat) (e : Ending) (o : Option LV) : Prop :=
  ∃ (A : Option Addr) (c : Nat) (l : List UInt8), e = .returned (.agg #[.int .i64 ((o.map LV.k).getD 0), .slice A l.length c]) ∧ Hid (l = (o.map fun x => x.x.l).getD []) ∧ OwB w base (.slice A l.length c) l
theorem TreeAt.small {w : World} {tb : Nat} {mo : Option Nat} {L : List (List UInt8 × LV)} (h : TreeAt w tb mo L) {x : List UInt8 × LV} (hx : x ∈ L) : x.2.x.l.length ≤ 4096 ∧ goodB x.1 = true ∧ (x.2.k = 1 ∨ x.2.k = 2) := by
  obtain ⟨g1, g2, g3⟩ := h.plain.good (x.1, x.2.p) (List.mem_map.2 ⟨x, hx, rfl⟩)
  refine ⟨?_, g1, g2⟩
  unfold checkN LV.p at g3
  dsimp only at g3
  split at g3
  · split at g3
    · assumption
    · simp at g3
  · split at g3
    · split at g3
      · omega
      · simp at g3
    · simp at g3
set_option maxHeartbeats 400000 in
theorem treeGet_ofP (va : Option Addr) (p : List UInt8) (w : World) (k : Int) (A : Option Addr) (c : Nat) (l : List UInt8) (Z : Nat → Prop) (hl : By w Z A l) (hn : l.length ≤ 4096)
    (hg : ∀ W, Below w.heap.size w W → Calls Tryz.prog 117 #[.pointer va, .string ⟨⟨p⟩⟩] W fun e w' => e = .returned (.agg #[.int .i64 k, .slice A l.length c]) ∧ Below W.heap.size W w') :
    Calls Tryz.prog 112 #[.pointer va, .string ⟨⟨p⟩⟩] w fun e w' => ∃ (A' : Option Addr) (c' : Nat) (l' : List UInt8), e = .returned (.agg #[.int .i64 k, .slice A' l'.length c']) ∧ Hid (l' = l) ∧ OwB w' w.heap.size (.slice A' l'.length c') l' ∧ Below w.heap.size w w' := by
  have hb0 : Below w.heap.size w (w.alloc (.cells #[.int .i64 0, .slice none 0 0] 25)) := (by repeat (first | exact Below.refl _ _ | refine Below.alloc ?_ (by simp) _ | refine Below.setCell ?_ (by simp) _ | refine Below.drew ?_))
  have x0 := Blk.new w 25 #[.int .i64 0, .slice none 0 0]
  have HG := Lib.hid hg
  have HL := Lib.hid hl
  clear hg hl
  go_enter Tryz.func112, Tryz.ntmps112
  go_wp2_with fail
  refine (HG.out _ hb0).mono ?_
  rintro e w1 ⟨rfl, hb1⟩
  have hw1 := hb0.trans (hb1.mono hb0.size)
  have x1 := x0.below hb1
  clear x0 hb0 hb1
  go_wp2_with fail
  refine (leafClone_any k A c l Z w1 (HL.out.below hw1) (by omega)).mono ?_
  rintro e w2 ⟨A', c', l', rfl, h1, h2, h3⟩
  have x2 := x1.below h3
  have hw2 := hw1.trans (h3.mono hw1.size)
  have d0 : w2.cell? ⟨w.heap.size, 0, none⟩ = some (.int .i64 0) := x2.cell 0
  have d1 : w2.cell? ⟨w.heap.size, 1, none⟩ = some (.slice none 0 0) := x2.cell 1
  have f0 := x2.frozen 0
  have f1 := x2.frozen 1
  obtain ⟨x3, k3⟩ := Blk.two (x' := .int .i64 k) (y' := .slice A' l'.length c') x2
  have ho := own_base (base' := w.heap.size) (h2.past x2 (by decide) k3) (fun g hg => Nat.le_trans hw1.size (h2.lt _ hg).1)
  have hw3 := hw2.trans (k3.below (B := w.heap.size) hw2.size (by intro k hk e; omega))
  go_wp2_with fail
  generalize (w2.setCell ⟨w.heap.size, 0, none⟩ (.int .i64 k)).setCell ⟨w.heap.size, 1, none⟩ (.slice A' l'.length c') = V at *
  have e0 : V.cell? ⟨w.heap.size, 0, none⟩ = some (.int .i64 k) := x3.cell 0
  have e1 : V.cell? ⟨w.heap.size, 1, none⟩ = some (.slice A' l'.length c') := x3.cell 1
  refine bodyPost_ret (v := .agg #[.int .i64 k, .slice A' l'.length c']) (by simp [results, Tryz.results112, go_sem, e0, e1]) rfl ?_
  exact ⟨A', c', l', rfl, h1, ho, hw3⟩
theorem treeGet_any (tb : Nat) (mo : Option Nat) (L : List (List UInt8 × LV)) (p : List UInt8) (w : World) (h : TreeAt w tb mo L) (hp : p.length ≤ 140737488355328) :
    Calls Tryz.prog 112 #[.pointer (some ⟨tb, 0, none⟩), .string ⟨⟨p⟩⟩] w fun e w' => LeafOwn w' w.heap.size e (getR L p) ∧ Below w.heap.size w w' := by
  have hg := fun W (hW : Below w.heap.size w W) => treeget_any tb mo L p W (h.below hW) hp
  rcases hq : getR L p with _ | ⟨k, A, c, l⟩
  · rw [hq] at hg
    refine (treeGet_ofP (some ⟨tb, 0, none⟩) p w 0 none 0 [] (fun _ => False) Rd.nil (by simp) hg).mono ?_
    rintro e w' ⟨A', c', l', rfl, h1, h2, h3⟩
    exact ⟨⟨A', c', l', rfl, h1, h2⟩, h3⟩
  · rw [hq] at hg
    have hm := getR_mem hq
    refine (treeGet_ofP (some ⟨tb, 0, none⟩) p w k A c l _ (h.ok _ hm).1 (h.small hm).1 hg).mono ?_
    rintro e w' ⟨A', c', l', rfl, h1, h2, h3⟩
    exact ⟨⟨A', c', l', rfl, h1, h2⟩, h3⟩
end Go.Proofs.YtdnljmncdbcgeaaGreat

/- name.Compare. -/
namespace Go.Proofs.YtdnljmncdbcgeaaGreat
open Go.RowKit

theorem less_cmp : ∀ a b : List UInt8, Op.bytesLess a b = decide (cmpB a b < 0)
  | [], [] => by simp [Op.bytesLess, cmpB, cmpL]
  | _ :: _, [] => by simp [Op.bytesLess, cmpB, cmpL]
  | [], _ :: _ => by simp [Op.bytesLess, cmpB, cmpL]
  | x :: a, y :: b => by
    have ih := less_cmp a b
    unfold cmpB at ih ⊢
    rw [Op.bytesLess, ih, cmpL]
    unfold cmp1
    rw [Bool.eq_iff_iff]
    by_cases h1 : x.toNat < y.toNat
    · simp [h1, UInt8.lt_iff_toNat_lt]
    · by_cases h2 : y.toNat < x.toNat
      · have : ¬ x = y := by rintro rfl; omega
        simp [h1, h2, UInt8.lt_iff_toNat_lt, this]
      · have : x = y := UInt8.toNat_inj.1 (by omega)
        subst this
        simp
theorem nan_str (s : ByteArray) (w : World) : Calls Tryz.prog 128 #[.string s] w fun e w' => e = .returned (.bool false) ∧ w = w' := by
  go_enter Tryz.func128, Tryz.ntmps128
  go_wp2_with fail
  go_ret
  exact ⟨rfl, rfl⟩
theorem cmpStr_any (s t : ByteArray) (w : World) : Calls Tryz.prog 104 #[.string s, .string t] w fun e w' => e = .returned (.int .i64 (cmpB (tl s) (tl t))) ∧ w = w' := by
  obtain ⟨a, ha⟩ : ∃ a, s.data.toList = a := ⟨_, rfl⟩
  obtain ⟨b, hb⟩ : ∃ b, t.data.toList = b := ⟨_, rfl⟩
  have hr := ordB.rng a b
  have HL := Lib.hid (less_cmp a b)
  have HQ := Lib.hid (ordB.eq a b)
  have EA := Lib.hid (show s.toList = a by rw [ByteArray.toList_eq, ha])
  have EB := Lib.hid (show t.toList = b by rw [ByteArray.toList_eq, hb])
  rw [show tl s = a from ha, show tl t = b from hb]
  clear ha hb
  go_enter Tryz.func104, Tryz.ntmps104
  go_wp2_with (first | (go_at_call 128; refine (nan_str _ _).mono ?_; rintro e w1 ⟨rfl, rfl⟩))
  all_goals
    go_ret
    refine ⟨ret_i ?_, rfl⟩
    simp only [EA.out, EB.out] at *
  · have h1 : Op.bytesLess a b = true := by assumption
    rw [HL.out] at h1
    simp at h1
    omega
  · have h1 : Op.bytesLess a b = false := by assumption
    have h2 : (!a == b) = true := by assumption
    rw [HL.out] at h1
    simp at h1 h2
    have := mt HQ.out.1 h2
    omega
  · have h2 : (!a == b) = false := by assumption
    simp at h2
    exact (HQ.out.2 h2).symm
theorem at_any (x : Bool) (w : World) : Calls Tryz.prog 105 #[.bool x] w fun e w' => e = .returned (.int .i64 (if x then 1 else 0)) ∧ w = w' := by
  cases x
  · go_enter Tryz.func105, Tryz.ntmps105
    go_wp2_with fail
    go_ret
    exact ⟨rfl, rfl⟩
  · go_enter Tryz.func105, Tryz.ntmps105
    go_wp2_with fail
    go_ret
    exact ⟨rfl, rfl⟩
/-- one part and whether there is more -/
structure CutTo (s x r : ByteArray) (m : Bool) : Prop where
  call : ∀ w, Calls Tryz.prog 103 #[.string s, .string ⟨#[47]⟩] w fun e w' => e = .returned (.tuple #[.string x, .string r, .bool m]) ∧ Qt w w'
  eq : cutL (tl s) = tl x :: (if m then cutL (tl r) else [])
  size : if m then r.size < s.size else True
  le : x.size ≤ s.size
theorem cut_to (s : ByteArray) (hs : s.size ≤ 9223372036854775807) : ∃ x r m, CutTo s x r m := by
  rcases cut_ways s with ⟨hi, hx⟩ | ⟨i, hi, hit, hx⟩
  · exact ⟨s, ⟨#[]⟩, false, fun w => strCut_none s w hi, by simpa using hx, by simp, Nat.le_refl _⟩
  · exact ⟨_, _, true, fun w => strCut_at s i w hi hit hs, by simpa using hx, by simp; omega, by simp; omega⟩
def strOf : Value → Nat | .string s => s.size | _ => 0
set_option maxHeartbeats 1000000 in
theorem compare_any (a b : ByteArray) (ha : a.size ≤ 9223372036854775807) (hb : b.size ≤ 9223372036854775807) (w : World) : Calls Tryz.prog 70 #[.string a, .string b] w fun e w' => e = .returned (.int .i64 (cmpT (tl a) (tl b))) ∧ Qt w w' := by
  go_enter Tryz.func70, Tryz.ntmps70
  go_wp2_with fail
  go_loopw [0, 1] (fun av bv wr => ∃ x y : ByteArray, av = .string x ∧ bv = .string y ∧ x.size ≤ a.size ∧ y.size ≤ b.size ∧ Hid (cmpT (tl x) (tl y) = cmpT (tl a) (tl b)) ∧ Qt w wr) (fun av _ _ => strOf av)
  case atStart => exact ⟨a, b, rfl, rfl, Nat.le_refl _, Nat.le_refl _, rfl, Qt.refl _⟩
  case round =>
    obtain ⟨x, y, rfl, rfl, hxa, hyb, hC, hq⟩ := hrel
    obtain ⟨x1, xr, xm, kx⟩ := cut_to x (by omega)
    obtain ⟨y1, yr, ym, ky⟩ := cut_to y (by omega)
    have ex := kx.eq
    have ey := ky.eq
    have sx := kx.size
    have sy := ky.size
    have hR : cmpT (tl x) (tl y) = if cmpB (tl x1) (tl y1) = 0 then cmpP (if xm then cutL (tl xr) else []) (if ym then cutL (tl yr) else []) else cmpB (tl x1) (tl y1) := by
      unfold cmpT
      rw [ex, ey]
      rfl
    have HR := Lib.hid (hC.out.symm.trans hR)
    clear hR ex ey hC
    by_cases h1 : x1 = y1
    · subst h1
      rw [if_pos (cmpB_self _)] at HR
      have hy1 := neq_yes (rfl : x1 = x1)
      have HF : ∀ m : Bool, Hid ((if m = true then (1 : Int) else 0) = if m then 1 else 0) := fun _ => rfl
      by_cases hm : xm = true ∧ ym = true
      · obtain ⟨rfl, rfl⟩ := hm
        rw [if_pos rfl] at sx sy
        go_wp2_with fail
        refine (kx.call _).mono ?_
        rintro e w1 ⟨rfl, n1, rfl⟩
        go_wp2_with fail
        refine (ky.call _).mono ?_
        rintro e w1 ⟨rfl, n2, rfl⟩
        go_wp2_with fail
        go_roundw
        case rel => exact ⟨xr, yr, rfl, rfl, by omega, by omega, HR.out.symm, hq.trans ⟨n1 + n2, rfl⟩⟩
        case measure => simp [strOf]; exact sx
      · have HS : Hid (cmpP (if xm = true then cutL (tl xr) else []) (if ym = true then cutL (tl yr) else []) = (if xm = true then 1 else 0) - (if ym = true then 1 else 0)) := by
          show _ = _
          cases xm <;> cases ym
          · rfl
          · obtain ⟨z, zs, e⟩ := List.exists_cons_of_ne_nil (cutL_ne (tl yr))
            simp [cmpP, cmpL, e]
          · obtain ⟨z, zs, e⟩ := List.exists_cons_of_ne_nil (cutL_ne (tl xr))
            simp [cmpP, cmpL, e]
          · simp at hm
        have HR2 := Lib.hid (HR.out.trans HS.out)
        clear HR HS sx sy
        cases xm <;> cases ym
        case true.true => simp at hm
        all_goals
          clear hm
          go_wp2_with fail
          refine (kx.call _).mono ?_
          rintro e w1 ⟨rfl, n1, rfl⟩
          go_wp2_with fail
          refine (ky.call _).mono ?_
          rintro e w1 ⟨rfl, n2, rfl⟩
          go_wp2_with (go_at_call 105; refine (at_any _ _).mono ?_; rintro e w1 ⟨rfl, rfl⟩)
          go_ret
          exact ⟨ret_i (by rw [HR2.out]; rfl), hq.trans ⟨n1 + n2, rfl⟩⟩
    · have hne : cmpB (tl x1) (tl y1) ≠ 0 := fun e => h1 (tl_inj ((ordB.eq _ _).1 e))
      rw [if_neg hne] at HR
      have hn := neq_no h1
      clear hne sx sy
      go_wp2_with fail
      refine (kx.call _).mono ?_
      rintro e w1 ⟨rfl, n1, rfl⟩
      go_wp2_with fail
      refine (ky.call _).mono ?_
      rintro e w1 ⟨rfl, n2, rfl⟩
      go_wp2_with fail
      refine (cmpStr_any _ _ _).mono ?_
      rintro e w1 ⟨rfl, rfl⟩
      go_wp2_with fail
      go_ret
      exact ⟨ret_i HR.out.symm, hq.trans ⟨n1 + n2, rfl⟩⟩

end Go.Proofs.YtdnljmncdbcgeaaGreat

/- What slices.SortFunc of texts by name.Compare does, as a premise. -/
namespace Go.Proofs.YtdnljmncdbcgeaaGreat
open Go.RowKit Go.Maps

/-- texts sorted by name.Compare -/
def SortsT : Prop := ∀ (base : Nat) (A : Option Addr) (c : Nat) (ss : List (List UInt8)) (w : World), w.ownsRow base 9 1 (.slice A ss.length c) ss.length (ss.map stv) → (∀ x ∈ ss, x.length ≤ 140737488355328) → ss.length ≤ 1099511627776 →
  Calls Tryz.prog 130 #[.slice A ss.length c, .func (.func 70) #[] #[]] w fun e w' => e = .returned (.tuple #[]) ∧ w'.ownsRow base 9 1 (.slice A ss.length c) ss.length ((ss.mergeSort leT).map stv) ∧ w.grownBy w' (ablk A)
theorem below_grown {w w' : World} (h : Below w.heap.size w w') : w.grownBy w' none := ⟨h.os, h.tape, h.output, h.size, fun k hk _ => h.block k hk⟩
theorem grown_below {B : Nat} {w w' : World} {row : Option Nat} (h : w.grownBy w' row) (hB : B ≤ w.heap.size) (hr : ∀ g, row = some g → B ≤ g) : Below B w w' := ⟨h.os, h.tape, h.output, h.size, fun k hk => h.block k (by omega) (fun e => by have := hr k e.symm; omega)⟩
end Go.Proofs.YtdnljmncdbcgeaaGreat

/- tree.Tree's paths: those of which something holds, in order. -/
namespace Go.Proofs.YtdnljmncdbcgeaaGreat
open Go.RowKit Go.Maps


set_option maxRecDepth 100000 in
set_option maxHeartbeats 1000000 in
theorem pathsBelow_any (hS : SortsT) (tb : Nat) (mo : Option Nat) (L : List (List UInt8 × LV)) (f : List UInt8 → Bool) (xb : Nat) (w : World) (h : TreeAt w tb mo L)
    (hc : ∀ W, Below w.heap.size w W → ∀ p ∈ keysR L, Calls Tryz.prog 138 #[.string ⟨⟨p⟩⟩, .pointer (some ⟨xb, 0, none⟩)] W fun e w' => e = .returned (.bool (f p)) ∧ Below W.heap.size W w') :
    Calls Tryz.prog 133 #[.pointer (some ⟨tb, 0, none⟩), .func (.func 138) #[] #[.pointer (some ⟨xb, 0, none⟩)]] w fun e w' => ∃ (A : Option Addr) (c : Nat) (l : List (List UInt8)), e = .returned (.slice A l.length c) ∧ Hid (l = (keysR L).filter f) ∧ w'.ownsRow w.heap.size 9 1 (.slice A l.length c) l.length (l.map stv) ∧ Below w.heap.size w w' := by
  have c0 := h.c0
  have hT := Lib.hid h
  have hkl : ∀ p ∈ keysR L, p.length ≤ 96 := fun p hp => by
    obtain ⟨x, hx, rfl⟩ := List.mem_map.1 hp
    exact goodB_len (h.small hx).2.1
  rcases h.map with ⟨rfl, rfl⟩ | ⟨mb, rfl, hm⟩
  · have hrg := run_range_nilMap (P := Tryz.prog) w 86 9 25 Tryz.underlying86
    have hnx := fun ty => run_next_nilMap (P := Tryz.prog) w ty 0 0 #[]
    have hb0 : Below w.heap.size w (w.alloc (.mapIter none 0 #[] 0)) := (Below.refl _ _).alloc (Nat.le_refl _) _
    generalize w.alloc (.mapIter none 0 #[] 0) = W0 at *
    have hbs := hb0.size
    have H0 := Lib.hid hb0
    clear h hc hkl hb0
    go_enter Tryz.func133, Tryz.ntmps133
    go_wp2_with fail
    go_loopw [4] (fun ov wr => ov = .slice none 0 0 ∧ wr = W0) (fun _ _ => 0)
    case atStart => exact ⟨rfl, rfl⟩
    case round =>
      obtain ⟨rfl, rfl⟩ := hrel
      have h00 : (Value.slice none 0 0) = .slice none ([] : List (List UInt8)).length 0 := rfl
      go_wp2_with fail
      refine (hS w.heap.size none 0 [] wr (World.ownsRow_nil _ _ _ _) (by simp) (by simp)).mono ?_
      rintro e w2 ⟨rfl, hown2, hg2⟩
      go_wp2_with fail
      go_ret
      exact ⟨none, 0, [], rfl, rfl, by simpa using hown2, H0.out.trans (grown_below hg2 hbs (by simp [ablk]))⟩
  · obtain ⟨w0, hrun, hr0, hg0, hs0⟩ := hm.range Tryz.underlying9 Tryz.underlying86
    have hb0 : Below w.heap.size w w0 := grown_below hg0 (Nat.le_refl _) (by simp)
    clear hm h
    obtain ⟨i0, hi0, hz0, hz1, hz2⟩ := info_parts str_info
    go_enter Tryz.func133, Tryz.ntmps133
    go_wp2_with fail
    have hkeys := keys_mapL L
    go_loopw [4] (fun ov wr => ∃ (seen : List (List UInt8)) (cnt : Nat) (ss : List (List UInt8)) (A : Option Addr) (c : Nat), ov = .slice A ss.length c ∧ Rng wr Tryz.prog 9 mb w.heap.size (mapL L) seen cnt ∧ seen.length ≤ L.length ∧ wr.ownsRow (w.heap.size + 1) 9 1 (.slice A ss.length c) ss.length (ss.map stv) ∧ Hid (ss = seen.filter f) ∧ (∀ x ∈ ss, x.length ≤ 96) ∧ Below w.heap.size w wr) (fun _ wr => wr.rangeLeft mb w.heap.size)
    case atStart => exact ⟨[], _, [], none, 0, rfl, hr0, by simp, World.ownsRow_nil _ _ _ _, rfl, by simp, hb0⟩
    case round =>
      obtain ⟨seen, cnt, ss, A, c, rfl, hr, hsl, hown, hss, hsx, hb⟩ := hrel
      have hlr := hr.lt
      have hsz := hb.size
      have hssl : ss.length ≤ 128 := by
        have := (hT.out.plain).len
        have h2 : ss.length ≤ seen.length := by rw [hss.out]; exact List.length_filter_le _ _
        have h3 : (plainL L).length = L.length := by simp [plainL]
        omega
      rcases hr.next Tryz.underlying9 0 with ⟨hrun, h0, hnd, hall⟩ | ⟨p, v, w1, cnt1, hpv, hpn, hrun, hr1, hlt, hg1, hs1, hen⟩
      · have hfin : ss.mergeSort leT = (keysR L).filter f := by
          rw [hss.out]
          refine sort_keys ((sort_map LV.v (L := L)).1 hr.sort) f (hnd.filter _) fun k => ?_
          rw [List.mem_filter, hall, hkeys]
        have HF := Lib.hid hfin
        clear hfin hss hall hnd
        go_wp2_with fail
        refine (hS _ A c ss _ hown (fun x hx => by have := hsx x hx; omega) (by omega)).mono ?_
        rintro e w2 ⟨rfl, hown2, hg2⟩
        have hab : ∀ g, ablk A = some g → w.heap.size ≤ g := fun g hg => by have := (Row.of_own hown).lt g hg; omega
        go_wp2_with fail
        go_ret
        have hml : (ss.mergeSort leT).length = ss.length := List.length_mergeSort ss
        refine ⟨A, c, ss.mergeSort leT, by rw [hml]; rfl, HF.out, ?_, hb.trans (grown_below hg2 hsz hab)⟩
        rw [hml]
        exact own_base hown2 (fun g hg => by have := (hown2.lt g hg).1; omega)
      · have hpk : p ∈ keysR L := by rw [← hkeys]; exact List.mem_map.2 ⟨_, hpv, rfl⟩
        have hp96 := hkl p hpk
        have hb1 : Below w.heap.size w w1 := hb.trans (grown_below hg1 hsz (fun g hg => by injection hg with hg; omega))
        have hne : (Value.slice A ss.length c).ownBlock ≠ some w.heap.size := fun e => by have := (hown.lt _ e).1; omega
        have hown1 : w1.ownsRow (w.heap.size + 1) 9 1 (.slice A ss.length c) ss.length (ss.map stv) := own_fr hown (Fr.of_grown hg1 (S := fun g => g = w.heap.size) (fun k _ e => by injection e with e; exact e.symm)) (fun g hg e => hne (by rw [hg, e]))
        have hsl2 : (seen ++ [p]).length ≤ L.length := by
          obtain ⟨D, left, _, h4, hcol⟩ := hr1.rng
          have h2 : (seen ++ [p]) ⊆ keysR (mapL L) := fun k hk => by
            have := ((hcol.2 k).1 hk).1
            rw [h4.has] at this
            exact getR_isSome.1 this
          have := nodup_len _ _ hcol.1 h2
          rw [keys_len] at this
          simpa [mapL] using this
        have HC := Lib.hid (hc w1 hb1 p hpk)
        have hss2 : Hid ((seen ++ [p]).filter f = if f p = true then ss ++ [p] else ss) := by
          show _ = _
          rw [List.filter_append, ← hss.out]
          by_cases hf : f p = true
          · rw [if_pos hf, List.filter_cons, if_pos hf]; rfl
          · rw [if_neg hf, List.filter_cons, if_neg hf]; simp
        have hleft := hr.left_eq
        clear hss hown hr hb
        generalize f p = b at HC hss2
        cases b
        · go_wp2_with fail
          refine HC.out.mono ?_
          rintro e w2 ⟨rfl, hb2⟩
          have hr2 := hr1.kept (below_grown hb2) (by simp) (by simp)
          go_wp2_with fail
          go_roundw
          case rel => exact ⟨seen ++ [p], cnt1, ss, A, c, rfl, hr2, hsl2, own_below hown1 hb2, by show _ = _; rw [hss2.out]; simp, hsx, hb1.trans (hb2.mono hb1.size)⟩
          case measure => rw [hr2.left_eq, hleft]; omega
        · go_wp2_with fail
          refine HC.out.mono ?_
          rintro e w2 ⟨rfl, hb2⟩
          have hr2 := hr1.kept (below_grown hb2) (by simp) (by simp)
          have hown2 := own_below hown1 hb2
          have HO := Lib.hid (World.ownsRow.alloc hown2 (.cells #[stv p] 9))
          have hs2 := hb2.size
          have hmb : mb < w.heap.size := by
            rcases hT.out.map with ⟨e, _⟩ | ⟨mb', e, hm⟩
            · cases e
            · injection e with e; rw [e]; exact hm.lt
          go_wp2_with (at_builtin; refine wpList_append_any _ rfl (.tmp 20) (.tmp 22) 54 rfl (w.heap.size + 1) 9 i0 _ 1 16 Tryz.underlying54 hi0 hz0 hz1 hz2 rfl (by omega) (.slice A ss.length c) ss.length (ss.map stv) rfl HO.out _ _ 1 1 [stv p] rfl (Rd.lit (xs := [stv p]) (n := 1) rfl rfl rfl) (by simp [Value.oneCell', stv]) (by simp only [maxLen]; omega) (by omega) (by simp; omega) ?_; intro v3 w3 hown3 hg3 hat3; obtain ⟨A3, c3, rfl, _⟩ := own_form hown3)
          have hr3 : Rng w3 Tryz.prog 9 mb w.heap.size (mapL L) (seen ++ [p]) cnt1 := (hr2.kept (World.grownBy_alloc _ _ none) (by simp) (by simp)).kept hg3 (fun e => by have := (hown2.lt _ e.symm).1; omega) (fun e => by have := (hown2.lt _ e.symm).1; omega)
          have hb3 : Below w.heap.size w w3 := ((hb1.trans (hb2.mono hb1.size)).alloc (by omega) _).trans (grown_below hg3 (by simp; omega) (fun g hg => by have := (hown2.lt _ hg).1; omega))
          go_roundw
          case rel =>
            refine ⟨seen ++ [p], cnt1, ss ++ [p], A3, c3, by simp, hr3, hsl2, ?_, by show _ = _; rw [hss2.out]; simp, fun x hx => ?_, hb3⟩
            · rw [List.length_append, List.map_append]
              exact hown3
            · rcases List.mem_append.1 hx with hx | hx
              · exact hsx x hx
              · rw [List.mem_singleton.1 hx]; exact hp96
          case measure => rw [hr3.left_eq, hleft]; omega


set_option maxRecDepth 100000 in
set_option maxHeartbeats 1000000 in
theorem pathsDiff_any (hS : SortsT) (tb : Nat) (mo : Option Nat) (L : List (List UInt8 × LV)) (f : List UInt8 → Bool) (xa xb : Nat) (w : World) (h : TreeAt w tb mo L)
    (hc : ∀ W, Below w.heap.size w W → ∀ p ∈ keysR L, Calls Tryz.prog 132 #[.string ⟨⟨p⟩⟩, .pointer (some ⟨xa, 0, none⟩), .pointer (some ⟨xb, 0, none⟩)] W fun e w' => e = .returned (.bool (f p)) ∧ Below W.heap.size W w') :
    Calls Tryz.prog 133 #[.pointer (some ⟨tb, 0, none⟩), .func (.func 132) #[] #[.pointer (some ⟨xa, 0, none⟩), .pointer (some ⟨xb, 0, none⟩)]] w fun e w' => ∃ (A : Option Addr) (c : Nat) (l : List (List UInt8)), e = .returned (.slice A l.length c) ∧ Hid (l = (keysR L).filter f) ∧ w'.ownsRow w.heap.size 9 1 (.slice A l.length c) l.length (l.map stv) ∧ Below w.heap.size w w' := by
  have c0 := h.c0
  have hT := Lib.hid h
  have hkl : ∀ p ∈ keysR L, p.length ≤ 96 := fun p hp => by
    obtain ⟨x, hx, rfl⟩ := List.mem_map.1 hp
    exact goodB_len (h.small hx).2.1
  rcases h.map with ⟨rfl, rfl⟩ | ⟨mb, rfl, hm⟩
  · have hrg := run_range_nilMap (P := Tryz.prog) w 86 9 25 Tryz.underlying86
    have hnx := fun ty => run_next_nilMap (P := Tryz.prog) w ty 0 0 #[]
    have hb0 : Below w.heap.size w (w.alloc (.mapIter none 0 #[] 0)) := (Below.refl _ _).alloc (Nat.le_refl _) _
    generalize w.alloc (.mapIter none 0 #[] 0) = W0 at *
    have hbs := hb0.size
    have H0 := Lib.hid hb0
    clear h hc hkl hb0
    go_enter Tryz.func133, Tryz.ntmps133
    go_wp2_with fail
    go_loopw [4] (fun ov wr => ov = .slice none 0 0 ∧ wr = W0) (fun _ _ => 0)
    case atStart => exact ⟨rfl, rfl⟩
    case round =>
      obtain ⟨rfl, rfl⟩ := hrel
      have h00 : (Value.slice none 0 0) = .slice none ([] : List (List UInt8)).length 0 := rfl
      go_wp2_with fail
      refine (hS w.heap.size none 0 [] wr (World.ownsRow_nil _ _ _ _) (by simp) (by simp)).mono ?_
      rintro e w2 ⟨rfl, hown2, hg2⟩
      go_wp2_with fail
      go_ret
      exact ⟨none, 0, [], rfl, rfl, by simpa using hown2, H0.out.trans (grown_below hg2 hbs (by simp [ablk]))⟩
  · obtain ⟨w0, hrun, hr0, hg0, hs0⟩ := hm.range Tryz.underlying9 Tryz.underlying86
    have hb0 : Below w.heap.size w w0 := grown_below hg0 (Nat.le_refl _) (by simp)
    clear hm h
    obtain ⟨i0, hi0, hz0, hz1, hz2⟩ := info_parts str_info
    go_enter Tryz.func133, Tryz.ntmps133
    go_wp2_with fail
    have hkeys := keys_mapL L
    go_loopw [4] (fun ov wr => ∃ (seen : List (List UInt8)) (cnt : Nat) (ss : List (List UInt8)) (A : Option Addr) (c : Nat), ov = .slice A ss.length c ∧ Rng wr Tryz.prog 9 mb w.heap.size (mapL L) seen cnt ∧ seen.length ≤ L.length ∧ wr.ownsRow (w.heap.size + 1) 9 1 (.slice A ss.length c) ss.length (ss.map stv) ∧ Hid (ss = seen.filter f) ∧ (∀ x ∈ ss, x.length ≤ 96) ∧ Below w.heap.size w wr) (fun _ wr => wr.rangeLeft mb w.heap.size)
    case atStart => exact ⟨[], _, [], none, 0, rfl, hr0, by simp, World.ownsRow_nil _ _ _ _, rfl, by simp, hb0⟩
    case round =>
      obtain ⟨seen, cnt, ss, A, c, rfl, hr, hsl, hown, hss, hsx, hb⟩ := hrel
      have hlr := hr.lt
      have hsz := hb.size
      have hssl : ss.length ≤ 128 := by
        have := (hT.out.plain).len
        have h2 : ss.length ≤ seen.length := by rw [hss.out]; exact List.length_filter_le _ _
        have h3 : (plainL L).length = L.length := by simp [plainL]
        omega
      rcases hr.next Tryz.underlying9 0 with ⟨hrun, h0, hnd, hall⟩ | ⟨p, v, w1, cnt1, hpv, hpn, hrun, hr1, hlt, hg1, hs1, hen⟩
      · have hfin : ss.mergeSort leT = (keysR L).filter f := by
          rw [hss.out]
          refine sort_keys ((sort_map LV.v (L := L)).1 hr.sort) f (hnd.filter _) fun k => ?_
          rw [List.mem_filter, hall, hkeys]
        have HF := Lib.hid hfin
        clear hfin hss hall hnd
        go_wp2_with fail
        refine (hS _ A c ss _ hown (fun x hx => by have := hsx x hx; omega) (by omega)).mono ?_
        rintro e w2 ⟨rfl, hown2, hg2⟩
        have hab : ∀ g, ablk A = some g → w.heap.size ≤ g := fun g hg => by have := (Row.of_own hown).lt g hg; omega
        go_wp2_with fail
        go_ret
        have hml : (ss.mergeSort leT).length = ss.length := List.length_mergeSort ss
        refine ⟨A, c, ss.mergeSort leT, by rw [hml]; rfl, HF.out, ?_, hb.trans (grown_below hg2 hsz hab)⟩
        rw [hml]
        exact own_base hown2 (fun g hg => by have := (hown2.lt g hg).1; omega)
      · have hpk : p ∈ keysR L := by rw [← hkeys]; exact List.mem_map.2 ⟨_, hpv, rfl⟩
        have hp96 := hkl p hpk
        have hb1 : Below w.heap.size w w1 := hb.trans (grown_below hg1 hsz (fun g hg => by injection hg with hg; omega))
        have hne : (Value.slice A ss.length c).ownBlock ≠ some w.heap.size := fun e => by have := (hown.lt _ e).1; omega
        have hown1 : w1.ownsRow (w.heap.size + 1) 9 1 (.slice A ss.length c) ss.length (ss.map stv) := own_fr hown (Fr.of_grown hg1 (S := fun g => g = w.heap.size) (fun k _ e => by injection e with e; exact e.symm)) (fun g hg e => hne (by rw [hg, e]))
        have hsl2 : (seen ++ [p]).length ≤ L.length := by
          obtain ⟨D, left, _, h4, hcol⟩ := hr1.rng
          have h2 : (seen ++ [p]) ⊆ keysR (mapL L) := fun k hk => by
            have := ((hcol.2 k).1 hk).1
            rw [h4.has] at this
            exact getR_isSome.1 this
          have := nodup_len _ _ hcol.1 h2
          rw [keys_len] at this
          simpa [mapL] using this
        have HC := Lib.hid (hc w1 hb1 p hpk)
        have hss2 : Hid ((seen ++ [p]).filter f = if f p = true then ss ++ [p] else ss) := by
          show _ = _
          rw [List.filter_append, ← hss.out]
          by_cases hf : f p = true
          · rw [if_pos hf, List.filter_cons, if_pos hf]; rfl
          · rw [if_neg hf, List.filter_cons, if_neg hf]; simp
        have hleft := hr.left_eq
        clear hss hown hr hb
        generalize f p = b at HC hss2
        cases b
        · go_wp2_with fail
          refine HC.out.mono ?_
          rintro e w2 ⟨rfl, hb2⟩
          have hr2 := hr1.kept (below_grown hb2) (by simp) (by simp)
          go_wp2_with fail
          go_roundw
          case rel => exact ⟨seen ++ [p], cnt1, ss, A, c, rfl, hr2, hsl2, own_below hown1 hb2, by show _ = _; rw [hss2.out]; simp, hsx, hb1.trans (hb2.mono hb1.size)⟩
          case measure => rw [hr2.left_eq, hleft]; omega
        · go_wp2_with fail
          refine HC.out.mono ?_
          rintro e w2 ⟨rfl, hb2⟩
          have hr2 := hr1.kept (below_grown hb2) (by simp) (by simp)
          have hown2 := own_below hown1 hb2
          have HO := Lib.hid (World.ownsRow.alloc hown2 (.cells #[stv p] 9))
          have hs2 := hb2.size
          have hmb : mb < w.heap.size := by
            rcases hT.out.map with ⟨e, _⟩ | ⟨mb', e, hm⟩
            · cases e
            · injection e with e; rw [e]; exact hm.lt
          go_wp2_with (at_builtin; refine wpList_append_any _ rfl (.tmp 20) (.tmp 22) 54 rfl (w.heap.size + 1) 9 i0 _ 1 16 Tryz.underlying54 hi0 hz0 hz1 hz2 rfl (by omega) (.slice A ss.length c) ss.length (ss.map stv) rfl HO.out _ _ 1 1 [stv p] rfl (Rd.lit (xs := [stv p]) (n := 1) rfl rfl rfl) (by simp [Value.oneCell', stv]) (by simp only [maxLen]; omega) (by omega) (by simp; omega) ?_; intro v3 w3 hown3 hg3 hat3; obtain ⟨A3, c3, rfl, _⟩ := own_form hown3)
          have hr3 : Rng w3 Tryz.prog 9 mb w.heap.size (mapL L) (seen ++ [p]) cnt1 := (hr2.kept (World.grownBy_alloc _ _ none) (by simp) (by simp)).kept hg3 (fun e => by have := (hown2.lt _ e.symm).1; omega) (fun e => by have := (hown2.lt _ e.symm).1; omega)
          have hb3 : Below w.heap.size w w3 := ((hb1.trans (hb2.mono hb1.size)).alloc (by omega) _).trans (grown_below hg3 (by simp; omega) (fun g hg => by have := (hown2.lt _ hg).1; omega))
          go_roundw
          case rel =>
            refine ⟨seen ++ [p], cnt1, ss ++ [p], A3, c3, by simp, hr3, hsl2, ?_, by show _ = _; rw [hss2.out]; simp, fun x hx => ?_, hb3⟩
            · rw [List.length_append, List.map_append]
              exact hown3
            · rcases List.mem_append.1 hx with hx | hx
              · exact hsx x hx
              · rw [List.mem_singleton.1 hx]; exact hp96
          case measure => rw [hr3.left_eq, hleft]; omega

theorem paths_nil (v : Value) (w : World) : Calls Tryz.prog 133 #[.pointer none, v] w fun e w' => e = .returned (.slice none 0 0) ∧ w = w' := by
  go_enter Tryz.func133, Tryz.ntmps133
  go_wp2_with fail
  go_ret
  exact ⟨rfl, rfl⟩
end Go.Proofs.YtdnljmncdbcgeaaGreat

/- tree.Tree: Below, Kids, all. -/
namespace Go.Proofs.YtdnljmncdbcgeaaGreat
open Go.RowKit Go.Maps

/-- texts told to a caller: a row of his own -/
def TxtOwn (w : World) (base : Nat) (e : Ending) (l : List (List UInt8)) : Prop :=
  ∃ (A : Option Addr) (c : Nat) (l' : List (List UInt8)), e = .returned (.slice A l'.length c) ∧ Hid (l' = l) ∧ w.ownsRow base 9 1 (.slice A l'.length c) l'.length (l'.map stv)
theorem below1_any (p : List UInt8) (xb : Nat) (q : List UInt8) (w : World) (hp : p.length ≤ 9223372036854775807) (hq : q.length ≤ 9223372036854775807) (hx : Blk w xb 9 #[.string ⟨⟨p⟩⟩]) :
    Calls Tryz.prog 138 #[.string ⟨⟨q⟩⟩, .pointer (some ⟨xb, 0, none⟩)] w fun e w' => e = .returned (.bool (underB q p)) ∧ Below w.heap.size w w' := by
  have c0 := hx.cell 0
  simp at c0
  have HU := Lib.hid (under_any ⟨⟨q⟩⟩ ⟨⟨p⟩⟩ hq hp w)
  go_enter Tryz.func138, Tryz.ntmps138
  go_wp2_with fail
  refine HU.out.mono ?_
  rintro e w1 ⟨rfl, hb1⟩
  go_wp2_with fail
  go_ret
  exact ⟨rfl, hb1⟩
set_option maxHeartbeats 400000 in
theorem treeBelow_any (hS : SortsT) (tb : Nat) (mo : Option Nat) (L : List (List UInt8 × LV)) (p : List UInt8) (w : World) (h : TreeAt w tb mo L) (hp : p.length ≤ 140737488355328) :
    Calls Tryz.prog 115 #[.pointer (some ⟨tb, 0, none⟩), .string ⟨⟨p⟩⟩] w fun e w' => TxtOwn w' w.heap.size e ((keysR L).filter fun q => underB q p) ∧ Below w.heap.size w w' := by
  have hb0 : Below w.heap.size w (w.alloc (.cells #[.string ⟨⟨p⟩⟩] 9)) := (by repeat (first | exact Below.refl _ _ | refine Below.alloc ?_ (by simp) _ | refine Below.setCell ?_ (by simp) _ | refine Below.drew ?_))
  have hx := Blk.new w 9 #[.string ⟨⟨p⟩⟩]
  have h0 := h.below hb0
  have hkl : ∀ q ∈ keysR L, q.length ≤ 96 := fun q hq => by
    obtain ⟨x, hx, rfl⟩ := List.mem_map.1 hq
    exact goodB_len (h.small hx).2.1
  have HP := Lib.hid (pathsBelow_any hS tb mo L (fun q => underB q p) w.heap.size _ h0 (fun W hW q hq => below1_any p w.heap.size q W (by omega) (by have := hkl q hq; omega) (hx.below hW)))
  clear h h0 hx
  go_enter Tryz.func115, Tryz.ntmps115
  go_wp2_with fail
  refine HP.out.mono ?_
  rintro e w1 ⟨A, c, l, rfl, hl, ho, hb1⟩
  go_wp2_with fail
  go_ret
  exact ⟨⟨A, c, l, rfl, hl, own_base ho (fun g hg => Nat.le_trans hb0.size (ho.lt g hg).1)⟩, hb0.trans (hb1.mono hb0.size)⟩
end Go.Proofs.YtdnljmncdbcgeaaGreat

/- name.Ups, tenderref03.Ups, Same. -/
namespace Go.Proofs.YtdnljmncdbcgeaaGreat
open Go.RowKit

set_option maxRecDepth 100000 in
set_option maxHeartbeats 1000000 in
theorem refSame03_any (A B : Option Addr) (c d : Nat) (l m : List (List UInt8)) (Z Z' : Nat → Prop) (w : World) (hl : Rd w Z 1 A l.length (l.map stv)) (hm : Rd w Z' 1 B m.length (m.map stv)) (hn : l.length ≤ 1099511627776) : Calls Tryz.prog 20 #[.slice A l.length c, .slice B m.length d] w fun e w' => e = .returned (.bool (l == m)) ∧ Qt w w' := by
  obtain ⟨R, hR⟩ : ∃ R, R = (l == m) := ⟨_, rfl⟩
  rw [← hR]
  by_cases hlen : l.length = m.length
  · have HR := Lib.hid hR
    clear hR
    have hq0 : ((l.length : Int) != (m.length : Int)) = false := by simp [hlen]
    have h1 : (l.length : Int) = (m.length : Int) := by omega
    have H1 := Lib.hid h1
    have H2 := Lib.hid hlen
    clear h1 hlen
    go_enter Tryz.func20, Tryz.ntmps20
    go_wp2_with fail
    go_loopw [5] (fun iv wr => ∃ i : Nat, i ≤ l.length ∧ iv = .int .i64 (i : Int) ∧ Hid (l.take i = m.take i) ∧ Qt w wr) (fun iv _ => l.length - (intOf iv).toNat)
    case atStart => exact ⟨0, Nat.zero_le _, rfl, rfl, Qt.refl _⟩
    case round =>
      obtain ⟨i, hi, rfl, hz, hq⟩ := hrel
      by_cases hlt : i < l.length
      · have hltm : i < m.length := by have := H2.out; omega
        obtain ⟨g, off, rfl, _, _, hcell⟩ := (hl.below hq.below).atm hlt
        obtain ⟨g', off', rfl, _, _, hcell'⟩ := (hm.below hq.below).atm hltm
        obtain ⟨xi, hxi⟩ : ∃ z, z = l[i] := ⟨_, rfl⟩
        obtain ⟨yi, hyi⟩ : ∃ z, z = m[i] := ⟨_, rfl⟩
        rw [← hxi] at hcell
        rw [← hyi] at hcell'
        have HN : Hid (xi = yi → l.take (i + 1) = m.take (i + 1)) := by
          intro e
          rw [List.take_succ_eq_append_getElem hlt, List.take_succ_eq_append_getElem hltm, hz.out, ← hxi, ← hyi, e]
        have HD : Hid (xi ≠ yi → R = false) := by
          intro hne
          rw [HR.out, beq_eq_false_iff_ne]
          intro e
          subst e
          exact hne (hxi.trans hyi.symm)
        have b1 : (i : Int) < (m.length : Int) := by omega
        clear hxi hyi hz
        unfold stv at hcell hcell'
        by_cases hxy : xi = yi
        · have hn : (!xi == yi) = false := by simp [hxy]
          have HN2 := Lib.hid (HN.out hxy)
          clear HN HD hxy
          go_wp2_with fail
          go_quiet (fail)
          go_wp2_with fail
          go_roundw
          case rel => exact ⟨i + 1, hlt, by go_num, HN2.out, hq.trans ⟨_, rfl⟩⟩
          case measure => simp [intOf]; omega
        · have hn : (!xi == yi) = true := by simp [hxy]
          have HD2 := Lib.hid (HD.out hxy)
          clear HN HD hxy
          go_wp2_with fail
          go_quiet (fail)
          go_wp2_with fail
          go_ret
          exact ⟨ret_b HD2.out.symm, hq.trans ⟨_, rfl⟩⟩
      · have HZ : Hid (l = m) := by
          have h := hz.out
          rw [List.take_of_length_le (by omega), List.take_of_length_le (by have := H2.out; omega)] at h
          exact h
        clear hz
        go_wp2_with fail
        go_ret
        refine ⟨ret_b ?_, hq⟩
        rw [HR.out, HZ.out]
        simp
  · have hq0 : ((l.length : Int) != (m.length : Int)) = true := by simp; omega
    have hq1 : ((l.length : Int) == (m.length : Int)) = false := by simp; omega
    have HR : Hid (R = false) := by show _ = _; rw [hR, beq_eq_false_iff_ne]; intro e; exact hlen (by rw [e])
    clear hlen hR
    go_enter Tryz.func20, Tryz.ntmps20
    go_wp2_with fail
    go_ret
    exact ⟨ret_b HR.out.symm, Qt.refl _⟩
end Go.Proofs.YtdnljmncdbcgeaaGreat

/- tenderlaw03: lives. -/
namespace Go.Proofs.YtdnljmncdbcgeaaGreat
open Go.RowKit

end Go.Proofs.YtdnljmncdbcgeaaGreat

/- NameUps is true for every input: the parent of any path, all paths above it, and whether it is under another one, are the document's. No condition beyond the row's own. -/
namespace Go.Proofs.YtdnljmncdbcgeaaGreat
open Go.RowKit

theorem ups_under {p x : List UInt8} (h : x ∈ upsL p) : underB p x = true := by
  unfold upsL at h
  cases hg : goodB p
  · rw [hg] at h; simp at h
  · rw [hg, if_pos rfl] at h
    obtain ⟨n, hn, rfl⟩ := List.mem_map.1 h
    have hn' := List.mem_range.1 hn
    have h1 : (cutL p).take (n + 1) ≠ [] := take_ne (by omega) (cutL_pos p)
    have h2 : cutL (pasteL ((cutL p).take (n + 1))) = (cutL p).take (n + 1) := cut_paste _ h1 (fun y hy => cut_no p y (List.mem_of_mem_take hy))
    have h3 : preB p (pasteL ((cutL p).take (n + 1))) = true := (preB_iff _ _).2 ⟨(cutL p).drop (n + 1), drop_ne (by omega), by rw [h2, List.take_append_drop]⟩
    unfold underB
    rw [hg, good_pre hg h3, h3]; rfl
theorem ups_len (p : List UInt8) : decide ((upsL p).length = 0) = !(parT p).2 := by
  unfold upsL parT
  cases hg : goodB p
  · simp
  · by_cases h : 1 < (cutL p).length
    · simp [h]; omega
    · simp [h]; omega
theorem par_ok (p : List UInt8) : (parT p).2 = !(parT p).1.isEmpty := by
  unfold parT
  split
  · rename_i h
    simp only [Bool.and_eq_true, decide_eq_true_eq] at h
    have hne : pasteL (cutL p).dropLast ≠ [] := by
      intro e
      have h1 : (cutL p).dropLast ≠ [] := by intro e2; have := congrArg List.length e2; rw [List.length_dropLast] at this; simp at this; omega
      have h2 := cut_paste (cutL p).dropLast h1 (fun y hy => cut_no p y ((List.dropLast_sublist _).subset hy))
      rw [e] at h2
      have h3 := h.1
      unfold goodB at h3
      simp only [Bool.and_eq_true] at h3
      have h4 := List.all_eq_true.1 h3.1.2 [] ((List.dropLast_sublist _).subset (by rw [← h2]; simp [cutL]))
      simp [partB] at h4
    simp [hne]
  · rfl
end Go.Proofs.YtdnljmncdbcgeaaGreat

/- tree.Tree.may: whether something may be set. -/
namespace Go.Proofs.YtdnljmncdbcgeaaGreat
open Go.RowKit Go.Maps

theorem paste_drop_len : ∀ (l : List (List UInt8)), l ≠ [] → (pasteL l.dropLast).length ≤ (pasteL l).length
  | [], h => (h rfl).elim
  | [x], _ => by simp [pasteL]
  | [x, y], _ => by simp [pasteL]
  | x :: y :: z :: l, _ => by
    have ih := paste_drop_len (y :: z :: l) (by simp)
    simp only [List.dropLast_cons_cons, pasteL, List.length_append, List.length_cons] at ih ⊢
    omega
theorem parT_len (p : List UInt8) : (parT p).1.length ≤ 96 := by
  unfold parT
  split
  · rename_i h
    rw [Bool.and_eq_true] at h
    have hg := goodB_len h.1
    have hl := paste_drop_len (cutL p) (cutL_ne p)
    rw [paste_cut] at hl
    show (pasteL (cutL p).dropLast).length ≤ 96
    omega
  · simp
theorem leaf_kind (k : Int) (v : Value) (w : World) : (Instr.field 25 (.agg #[.int .i64 k, v]) 0).run Tryz.prog w = .ok (.int .i64 k) w := by kernel_rfl
set_option maxRecDepth 100000 in
set_option maxHeartbeats 2000000 in
theorem treemay_any (hS : SortsT) (tb : Nat) (mo : Option Nat) (L : List (List UInt8 × LV)) (p : List UInt8) (k : Int) (A : Option Addr) (c : Nat) (l : List UInt8) (w : World) (h : TreeAt w tb mo L) (hp : p.length ≤ 1048576) (hn : l.length ≤ 140737488355328) :
    Calls Tryz.prog 80 #[.pointer (some ⟨tb, 0, none⟩), .string ⟨⟨p⟩⟩, .agg #[.int .i64 k, .slice A l.length c]] w fun e w' => e = .returned (.int .i64 (mayS (plainL L) p (k, l))) ∧ Below w.heap.size w w' := by
  obtain ⟨M, hM⟩ : ∃ M, M = mayS (plainL L) p (k, l) := ⟨_, rfl⟩
  rw [← hM]
  have HM := Lib.hid hM
  clear hM
  have HT := Lib.hid h
  have hb0 : Below w.heap.size w (w.alloc (.cells #[.int .i64 k, .slice A l.length c] 25)) := (by repeat (first | exact Below.refl _ _ | refine Below.alloc ?_ (by simp) _ | refine Below.setCell ?_ (by simp) _ | refine Below.drew ?_))
  have x0 := Blk.new w 25 #[.int .i64 k, .slice A l.length c]
  have HCK := Lib.hid (fun W => leafCheck_any k A l.length c W hn)
  have hsn : (getR (plainL L) p).isNone = (getR L p).isNone := by rw [get_plain]; rcases getR L p with _ | o <;> rfl
  have hpl : (plainL L).length = L.length := by simp [plainL]
  clear h
  go_enter Tryz.func80, Tryz.ntmps80
  go_wp2_with fail
  refine (check_any ⟨⟨p⟩⟩ (by show p.length ≤ _; omega) _).mono ?_
  rintro e w1 ⟨rfl, hb1⟩
  rw [show tl ⟨⟨p⟩⟩ = p from rfl]
  have hw1 := hb0.trans (hb1.mono hb0.size)
  have x1 := x0.below hb1
  clear hb1 x0 hb0
  cases hg : goodB p
  · rw [if_neg (by simp)]
    obtain rfl : M = 23 := by rw [HM.out]; unfold mayS; rw [if_pos hg]
    go_wp2_with fail
    go_ret
    exact ⟨rfl, hw1⟩
  · rw [if_pos rfl]
    have hp96 := goodB_len hg
    have q0 : w1.cell? ⟨w.heap.size, 0, none⟩ = some (.int .i64 k) := x1.cell 0
    have q1 : w1.cell? ⟨w.heap.size, 1, none⟩ = some (.slice A l.length c) := x1.cell 1
    go_wp2_with fail
    refine (HCK.out _).mono ?_
    rintro e w2 ⟨rfl, hb2⟩
    have hw2 := hw1.trans (hb2.mono hw1.size)
    have x2 := x1.below hb2
    clear q0 q1 hb2 x1 hw1 HCK
    by_cases hc : checkN k l.length = 0
    · rw [hc]
      have q0 : w2.cell? ⟨w.heap.size, 0, none⟩ = some (.int .i64 k) := x2.cell 0
      have HM1 : Hid (M = if k ≠ 2 ∧ ((keysR (plainL L)).filter fun q => underB q p) ≠ [] then 22 else if k = 0 then 0 else if (parT p).2 = true ∧ kindL (getR (plainL L) (parT p).1) ≠ 2 then 22 else if (getR (plainL L) p).isNone ∧ 128 ≤ (plainL L).length then 24 else 0) := by
        show _ = _
        rw [HM.out]
        unfold mayS
        rw [if_neg (by rw [hg]; simp), if_neg (by simpa using hc)]
      clear HM
      have hk := checkN_kind hc
      clear hc
      rcases hk with rfl | rfl | rfl
      · have HM2 : Hid (M = if ((keysR (plainL L)).filter fun q => underB q p) ≠ [] then 22 else 0) := by
          show _ = _
          rw [HM1.out]
          simp
        clear HM1
        go_wp2_with fail
        refine (treeBelow_any hS tb mo L p w2 (HT.out.below hw2) (by omega)).mono ?_
        rintro e w3 ⟨⟨A3, c3, l3, rfl, hl3, _⟩, hb3⟩
        have hw3 := hw2.trans (hb3.mono hw2.size)
        have x3 := x2.below hb3
        have hlk : ((keysR (plainL L)).filter fun q => underB q p) = l3 := by rw [keys_plain]; exact hl3.out.symm
        rw [hlk] at HM2
        clear hl3 hlk q0 x2 hb3
        have q0 : w3.cell? ⟨w.heap.size, 0, none⟩ = some (.int .i64 0) := x3.cell 0
        rcases l3 with _ | ⟨y, l3⟩
        · rw [if_neg (by simp)] at HM2
          obtain rfl : M = 0 := HM2.out
          go_wp2_with fail
          go_ret
          exact ⟨rfl, hw3⟩
        · rw [if_pos (by simp)] at HM2
          obtain rfl : M = 22 := HM2.out
          have hl0 : 0 < (y :: l3).length := by simp
          generalize (y :: l3).length = n3 at *
          go_wp2_with fail
          go_ret
          exact ⟨rfl, hw3⟩
      · have HM2 : Hid (M = if ((keysR (plainL L)).filter fun q => underB q p) ≠ [] then 22 else if (parT p).2 = true ∧ kindL (getR (plainL L) (parT p).1) ≠ 2 then 22 else if (getR (plainL L) p).isNone ∧ 128 ≤ (plainL L).length then 24 else 0) := by
          show _ = _
          rw [HM1.out]
          simp
        clear HM1
        go_wp2_with fail
        refine (treeBelow_any hS tb mo L p w2 (HT.out.below hw2) (by omega)).mono ?_
        rintro e w3 ⟨⟨A3, c3, l3, rfl, hl3, _⟩, hb3⟩
        have hw3 := hw2.trans (hb3.mono hw2.size)
        have x3 := x2.below hb3
        have hlk : ((keysR (plainL L)).filter fun q => underB q p) = l3 := by rw [keys_plain]; exact hl3.out.symm
        rw [hlk] at HM2
        clear hl3 hlk q0 x2 hb3
        have q0 : w3.cell? ⟨w.heap.size, 0, none⟩ = some (.int .i64 1) := x3.cell 0
        rcases l3 with _ | ⟨y, l3⟩
        · rw [if_neg (by simp)] at HM2
          go_wp2_with fail
          clear q0 x3
          refine (parent_any ⟨⟨p⟩⟩ (by show p.length ≤ _; omega) w3).mono ?_
          rintro e w4 ⟨⟨⟨t⟩⟩, b, rfl, ht, hb4⟩
          rw [show tl ⟨⟨p⟩⟩ = p from rfl, show tl ⟨⟨t⟩⟩ = t from rfl] at ht
          rw [← ht.out] at HM2
          dsimp only at HM2
          have htl : t.length ≤ 96 := by
            have h1 := congrArg Prod.fst ht.out
            dsimp only at h1
            rw [h1]
            exact parT_len p
          have hw4 := hw3.trans (hb4.mono hw3.size)
          clear ht hb4
          cases b
          · rw [if_neg (by simp)] at HM2
            have hcc := (HT.out.below hw4).c0
            have hlo := (HT.out.below hw4).look_ok p (by simp only [maxLen]; omega)
            rw [hsn, hpl] at HM2
            generalize getR L p = op at *
            rcases op with _ | ⟨ko, Ao, co, lo⟩
            · unfold leafO at hlo
              rw [show (none : Option LV).isSome = false from rfl] at hlo
              have hbA : Below w4.heap.size w4 (w4.alloc (.cells #[.int .i64 0, .slice none 0 0] 25)) := (by repeat (first | exact Below.refl _ _ | refine Below.alloc ?_ (by simp) _ | refine Below.setCell ?_ (by simp) _ | refine Below.drew ?_))
              have hA := HT.out.below (hw4.trans (hbA.mono hw4.size))
              have c5 := hA.c0
              have hct := fun ty => hA.count ty
              have hwA := hw4.trans (hbA.mono hw4.size)
              have Hw := Lib.hid hwA
              clear hA hbA hwA
              by_cases h128 : 128 ≤ L.length
              · obtain rfl : M = 24 := by rw [HM2.out, if_pos ⟨rfl, h128⟩]
                clear HM2
                go_wp2_with fail
                go_ret
                exact ⟨rfl, Hw.out⟩
              · obtain rfl : M = 0 := by rw [HM2.out, if_neg (fun e => h128 e.2)]
                clear HM2
                go_wp2_with fail
                go_ret
                exact ⟨rfl, Hw.out⟩
            · unfold leafO LV.v at hlo
              dsimp only at hlo
              rw [show (some (⟨ko, ⟨Ao, co, lo⟩⟩ : LV)).isSome = true from rfl] at hlo
              have hbA : Below w4.heap.size w4 (w4.alloc (.cells #[.int .i64 ko, .slice Ao lo.length co] 25)) := (by repeat (first | exact Below.refl _ _ | refine Below.alloc ?_ (by simp) _ | refine Below.setCell ?_ (by simp) _ | refine Below.drew ?_))
              have hA := HT.out.below (hw4.trans (hbA.mono hw4.size))
              have c5 := hA.c0
              have hct := fun ty => hA.count ty
              have hwA := hw4.trans (hbA.mono hw4.size)
              have Hw := Lib.hid hwA
              clear hA hbA hwA
              obtain rfl : M = 0 := by rw [HM2.out, if_neg (fun e => by cases e.1)]
              clear HM2
              go_wp2_with fail
              go_ret
              exact ⟨rfl, Hw.out⟩
          · rw [get_plain] at HM2
            go_wp2_with fail
            refine (treeget_any tb mo L t w4 (HT.out.below hw4) (by omega)).mono ?_
            rintro e w5 ⟨rfl, hb5⟩
            have hw5 := hw4.trans (hb5.mono hw4.size)
            clear hb5
            obtain ⟨kk, vv, hv, hkk⟩ : ∃ kk vv, leafO (getR L t) = .agg #[.int .i64 kk, vv] ∧ kindL ((getR L t).map LV.p) = kk := by
              rcases getR L t with _ | ⟨ko, Ao, co, lo⟩
              · exact ⟨0, _, rfl, rfl⟩
              · exact ⟨ko, _, rfl, rfl⟩
            rw [hv]
            rw [hkk] at HM2
            have hfk := fun W => leaf_kind kk vv W
            clear hv hkk
            by_cases hk2 : kk = 2
            · have hk2b : (kk != 2) = false := by simp [hk2]
              rw [if_neg (by simp [hk2])] at HM2
              clear hk2
              have hcc := (HT.out.below hw5).c0
              have hlo := (HT.out.below hw5).look_ok p (by simp only [maxLen]; omega)
              rw [hsn, hpl] at HM2
              generalize getR L p = op at *
              rcases op with _ | ⟨ko, Ao, co, lo⟩
              · unfold leafO at hlo
                rw [show (none : Option LV).isSome = false from rfl] at hlo
                have hbA : Below w5.heap.size w5 (w5.alloc (.cells #[.int .i64 0, .slice none 0 0] 25)) := (by repeat (first | exact Below.refl _ _ | refine Below.alloc ?_ (by simp) _ | refine Below.setCell ?_ (by simp) _ | refine Below.drew ?_))
                have hA := HT.out.below (hw5.trans (hbA.mono hw5.size))
                have c5 := hA.c0
                have hct := fun ty => hA.count ty
                have hwA := hw5.trans (hbA.mono hw5.size)
                have Hw := Lib.hid hwA
                clear hA hbA hwA
                by_cases h128 : 128 ≤ L.length
                · obtain rfl : M = 24 := by rw [HM2.out, if_pos ⟨rfl, h128⟩]
                  clear HM2
                  go_wp2_with fail
                  go_ret
                  exact ⟨rfl, Hw.out⟩
                · obtain rfl : M = 0 := by rw [HM2.out, if_neg (fun e => h128 e.2)]
                  clear HM2
                  go_wp2_with fail
                  go_ret
                  exact ⟨rfl, Hw.out⟩
              · unfold leafO LV.v at hlo
                dsimp only at hlo
                rw [show (some (⟨ko, ⟨Ao, co, lo⟩⟩ : LV)).isSome = true from rfl] at hlo
                have hbA : Below w5.heap.size w5 (w5.alloc (.cells #[.int .i64 ko, .slice Ao lo.length co] 25)) := (by repeat (first | exact Below.refl _ _ | refine Below.alloc ?_ (by simp) _ | refine Below.setCell ?_ (by simp) _ | refine Below.drew ?_))
                have hA := HT.out.below (hw5.trans (hbA.mono hw5.size))
                have c5 := hA.c0
                have hct := fun ty => hA.count ty
                have hwA := hw5.trans (hbA.mono hw5.size)
                have Hw := Lib.hid hwA
                clear hA hbA hwA
                obtain rfl : M = 0 := by rw [HM2.out, if_neg (fun e => by cases e.1)]
                clear HM2
                go_wp2_with fail
                go_ret
                exact ⟨rfl, Hw.out⟩
            · have hk2b : (kk != 2) = true := by simpa using hk2
              obtain rfl : M = 22 := by rw [HM2.out]; simp [hk2]
              clear hk2 HM2
              go_wp2_with fail
              go_ret
              exact ⟨rfl, hw5⟩
        · rw [if_pos (by simp)] at HM2
          obtain rfl : M = 22 := HM2.out
          have hl0 : 0 < (y :: l3).length := by simp
          generalize (y :: l3).length = n3 at *
          go_wp2_with fail
          go_ret
          exact ⟨rfl, hw3⟩
      · have HM2 : Hid (M = if (parT p).2 = true ∧ kindL (getR (plainL L) (parT p).1) ≠ 2 then 22 else if (getR (plainL L) p).isNone ∧ 128 ≤ (plainL L).length then 24 else 0) := by
          show _ = _
          rw [HM1.out]
          simp
        clear HM1
        go_wp2_with fail
        clear q0 x2
        refine (parent_any ⟨⟨p⟩⟩ (by show p.length ≤ _; omega) w2).mono ?_
        rintro e w4 ⟨⟨⟨t⟩⟩, b, rfl, ht, hb4⟩
        rw [show tl ⟨⟨p⟩⟩ = p from rfl, show tl ⟨⟨t⟩⟩ = t from rfl] at ht
        rw [← ht.out] at HM2
        dsimp only at HM2
        have htl : t.length ≤ 96 := by
          have h1 := congrArg Prod.fst ht.out
          dsimp only at h1
          rw [h1]
          exact parT_len p
        have hw4 := hw2.trans (hb4.mono hw2.size)
        clear ht hb4
        cases b
        · rw [if_neg (by simp)] at HM2
          have hcc := (HT.out.below hw4).c0
          have hlo := (HT.out.below hw4).look_ok p (by simp only [maxLen]; omega)
          rw [hsn, hpl] at HM2
          generalize getR L p = op at *
          rcases op with _ | ⟨ko, Ao, co, lo⟩
          · unfold leafO at hlo
            rw [show (none : Option LV).isSome = false from rfl] at hlo
            have hbA : Below w4.heap.size w4 (w4.alloc (.cells #[.int .i64 0, .slice none 0 0] 25)) := (by repeat (first | exact Below.refl _ _ | refine Below.alloc ?_ (by simp) _ | refine Below.setCell ?_ (by simp) _ | refine Below.drew ?_))
            have hA := HT.out.below (hw4.trans (hbA.mono hw4.size))
            have c5 := hA.c0
            have hct := fun ty => hA.count ty
            have hwA := hw4.trans (hbA.mono hw4.size)
            have Hw := Lib.hid hwA
            clear hA hbA hwA
            by_cases h128 : 128 ≤ L.length
            · obtain rfl : M = 24 := by rw [HM2.out, if_pos ⟨rfl, h128⟩]
              clear HM2
              go_wp2_with fail
              go_ret
              exact ⟨rfl, Hw.out⟩
            · obtain rfl : M = 0 := by rw [HM2.out, if_neg (fun e => h128 e.2)]
              clear HM2
              go_wp2_with fail
              go_ret
              exact ⟨rfl, Hw.out⟩
          · unfold leafO LV.v at hlo
            dsimp only at hlo
            rw [show (some (⟨ko, ⟨Ao, co, lo⟩⟩ : LV)).isSome = true from rfl] at hlo
            have hbA : Below w4.heap.size w4 (w4.alloc (.cells #[.int .i64 ko, .slice Ao lo.length co] 25)) := (by repeat (first | exact Below.refl _ _ | refine Below.alloc ?_ (by simp) _ | refine Below.setCell ?_ (by simp) _ | refine Below.drew ?_))
            have hA := HT.out.below (hw4.trans (hbA.mono hw4.size))
            have c5 := hA.c0
            have hct := fun ty => hA.count ty
            have hwA := hw4.trans (hbA.mono hw4.size)
            have Hw := Lib.hid hwA
            clear hA hbA hwA
            obtain rfl : M = 0 := by rw [HM2.out, if_neg (fun e => by cases e.1)]
            clear HM2
            go_wp2_with fail
            go_ret
            exact ⟨rfl, Hw.out⟩
        · rw [get_plain] at HM2
          go_wp2_with fail
          refine (treeget_any tb mo L t w4 (HT.out.below hw4) (by omega)).mono ?_
          rintro e w5 ⟨rfl, hb5⟩
          have hw5 := hw4.trans (hb5.mono hw4.size)
          clear hb5
          obtain ⟨kk, vv, hv, hkk⟩ : ∃ kk vv, leafO (getR L t) = .agg #[.int .i64 kk, vv] ∧ kindL ((getR L t).map LV.p) = kk := by
            rcases getR L t with _ | ⟨ko, Ao, co, lo⟩
            · exact ⟨0, _, rfl, rfl⟩
            · exact ⟨ko, _, rfl, rfl⟩
          rw [hv]
          rw [hkk] at HM2
          have hfk := fun W => leaf_kind kk vv W
          clear hv hkk
          by_cases hk2 : kk = 2
          · have hk2b : (kk != 2) = false := by simp [hk2]
            rw [if_neg (by simp [hk2])] at HM2
            clear hk2
            have hcc := (HT.out.below hw5).c0
            have hlo := (HT.out.below hw5).look_ok p (by simp only [maxLen]; omega)
            rw [hsn, hpl] at HM2
            generalize getR L p = op at *
            rcases op with _ | ⟨ko, Ao, co, lo⟩
            · unfold leafO at hlo
              rw [show (none : Option LV).isSome = false from rfl] at hlo
              have hbA : Below w5.heap.size w5 (w5.alloc (.cells #[.int .i64 0, .slice none 0 0] 25)) := (by repeat (first | exact Below.refl _ _ | refine Below.alloc ?_ (by simp) _ | refine Below.setCell ?_ (by simp) _ | refine Below.drew ?_))
              have hA := HT.out.below (hw5.trans (hbA.mono hw5.size))
              have c5 := hA.c0
              have hct := fun ty => hA.count ty
              have hwA := hw5.trans (hbA.mono hw5.size)
              have Hw := Lib.hid hwA
              clear hA hbA hwA
              by_cases h128 : 128 ≤ L.length
              · obtain rfl : M = 24 := by rw [HM2.out, if_pos ⟨rfl, h128⟩]
                clear HM2
                go_wp2_with fail
                go_ret
                exact ⟨rfl, Hw.out⟩
              · obtain rfl : M = 0 := by rw [HM2.out, if_neg (fun e => h128 e.2)]
                clear HM2
                go_wp2_with fail
                go_ret
                exact ⟨rfl, Hw.out⟩
            · unfold leafO LV.v at hlo
              dsimp only at hlo
              rw [show (some (⟨ko, ⟨Ao, co, lo⟩⟩ : LV)).isSome = true from rfl] at hlo
              have hbA : Below w5.heap.size w5 (w5.alloc (.cells #[.int .i64 ko, .slice Ao lo.length co] 25)) := (by repeat (first | exact Below.refl _ _ | refine Below.alloc ?_ (by simp) _ | refine Below.setCell ?_ (by simp) _ | refine Below.drew ?_))
              have hA := HT.out.below (hw5.trans (hbA.mono hw5.size))
              have c5 := hA.c0
              have hct := fun ty => hA.count ty
              have hwA := hw5.trans (hbA.mono hw5.size)
              have Hw := Lib.hid hwA
              clear hA hbA hwA
              obtain rfl : M = 0 := by rw [HM2.out, if_neg (fun e => by cases e.1)]
              clear HM2
              go_wp2_with fail
              go_ret
              exact ⟨rfl, Hw.out⟩
          · have hk2b : (kk != 2) = true := by simpa using hk2
            obtain rfl : M = 22 := by rw [HM2.out]; simp [hk2]
            clear hk2 HM2
            go_wp2_with fail
            go_ret
            exact ⟨rfl, hw5⟩
    · have hc2 : (checkN k l.length != 0) = true := by simpa using hc
      have hMc : M = checkN k l.length := by rw [HM.out]; unfold mayS; rw [if_neg (by rw [hg]; simp), if_pos hc]
      clear HM hc
      generalize checkN k l.length = C at *
      subst hMc
      go_wp2_with fail
      go_ret
      exact ⟨rfl, hw2⟩

end Go.Proofs.YtdnljmncdbcgeaaGreat

/- tenderref03: less, bytes, Compare. -/
namespace Go.Proofs.YtdnljmncdbcgeaaGreat
open Go.RowKit

/-- how two numbers stand -/
def cmpN (a b : Int) : Int := if a < b then -1 else if b < a then 1 else 0
theorem less_any (a b : Int) (w : World) : Calls Tryz.prog 142 #[.int .i64 a, .int .i64 b] w fun e w' => e = .returned (.int .i64 (cmpN a b)) ∧ w = w' := by
  obtain ⟨R, hR⟩ : ∃ R, R = cmpN a b := ⟨_, rfl⟩
  rw [← hR]
  have HR := Lib.hid hR
  clear hR
  go_enter Tryz.func142, Tryz.ntmps142
  go_wp2_with fail
  all_goals
    go_ret
    refine ⟨ret_i ?_, rfl⟩
    rw [HR.out]
    unfold cmpN
    first
      | (rw [if_pos (by assumption)])
      | (rw [if_neg (by omega), if_pos (by assumption)])
      | (rw [if_neg (by omega), if_neg (by omega)])
/-- two texts that are alike so far stand as what is left of them -/
theorem cmpB_take : ∀ (i : Nat) (a b : List UInt8), a.take i = b.take i → i ≤ a.length → i ≤ b.length → cmpB a b = cmpB (a.drop i) (b.drop i)
  | 0, _, _, _, _, _ => rfl
  | i + 1, [], _, _, h, _ => by simp at h
  | i + 1, _ :: _, [], _, _, h => by simp at h
  | i + 1, x :: a, y :: b, h, ha, hb => by
    rw [List.take_succ_cons, List.take_succ_cons] at h
    injection h with h1 h2
    subst h1
    have ih := cmpB_take i a b h2 (by simpa using ha) (by simpa using hb)
    rw [List.drop_succ_cons, List.drop_succ_cons, ← ih]
    show cmpL cmp1 (x :: a) (x :: b) = _
    rw [cmpL, if_pos ((ord1.eq x x).2 rfl)]
    rfl
theorem cmpP_take : ∀ (i : Nat) (a b : List (List UInt8)), a.take i = b.take i → i ≤ a.length → i ≤ b.length → cmpP a b = cmpP (a.drop i) (b.drop i)
  | 0, _, _, _, _, _ => rfl
  | i + 1, [], _, _, h, _ => by simp at h
  | i + 1, _ :: _, [], _, _, h => by simp at h
  | i + 1, x :: a, y :: b, h, ha, hb => by
    rw [List.take_succ_cons, List.take_succ_cons] at h
    injection h with h1 h2
    subst h1
    have ih := cmpP_take i a b h2 (by simpa using ha) (by simpa using hb)
    rw [List.drop_succ_cons, List.drop_succ_cons, ← ih]
    show cmpL cmpB (x :: a) (x :: b) = _
    rw [cmpL, if_pos (cmpB_self x)]
    rfl
theorem cmpL_ends {α : Type} (c : α → α → Int) (a b : List α) (h : a = [] ∨ b = []) : cmpL c a b = cmpN a.length b.length := by
  rcases h with rfl | rfl
  · cases b with
    | nil => rfl
    | cons y b => simp [cmpL, cmpN]
  · cases a with
    | nil => rfl
    | cons y b => simp [cmpL, cmpN]; omega
theorem cmpN_add (a b k : Int) : cmpN (a + k) (b + k) = cmpN a b := by
  unfold cmpN
  split <;> split <;> first | rfl | omega | (split <;> first | rfl | omega)
theorem cmpB_hd {x y : UInt8} {a b : List UInt8} (h : cmp1 x y ≠ 0) : cmpB (x :: a) (y :: b) = cmp1 x y := by
  show cmpL cmp1 _ _ = _
  rw [cmpL, if_neg h]

set_option maxRecDepth 100000 in
set_option maxHeartbeats 1000000 in
theorem bytes_any (s t : ByteArray) (hs : s.size ≤ 1048576) (_ : t.size ≤ 1048576) (w : World) : Calls Tryz.prog 141 #[.string s, .string t] w fun e w' => e = .returned (.int .i64 (cmpB (tl s) (tl t))) ∧ Qt w w' := by
  obtain ⟨R, hR⟩ : ∃ R, R = cmpB (tl s) (tl t) := ⟨_, rfl⟩
  rw [← hR]
  have HR := Lib.hid hR
  clear hR
  go_enter Tryz.func141, Tryz.ntmps141
  go_wp2_with fail
  go_loopw [5] (fun iv wr => ∃ i : Nat, i ≤ s.size ∧ i ≤ t.size ∧ iv = .int .i64 (i : Int) ∧ Hid ((tl s).take i = (tl t).take i) ∧ Qt w wr) (fun iv _ => s.size - (intOf iv).toNat)
  case atStart => exact ⟨0, Nat.zero_le _, Nat.zero_le _, rfl, rfl, Qt.refl _⟩
  case round =>
    obtain ⟨i, hi, hj, rfl, hz, hq⟩ := hrel
    by_cases hlt : i < s.size ∧ i < t.size
    · obtain ⟨h1, h2⟩ := hlt
      have g1 : (tl s)[i]? = some s[i] := by rw [List.getElem?_eq_getElem (by rw [tl_len]; exact h1)]; rfl
      have g2 : (tl t)[i]? = some t[i] := by rw [List.getElem?_eq_getElem (by rw [tl_len]; exact h2)]; rfl
      have d1 : (tl s).drop i = s[i] :: (tl s).drop (i + 1) := by rw [List.drop_eq_getElem_cons (by rw [tl_len]; exact h1)]; rfl
      have d2 : (tl t).drop i = t[i] :: (tl t).drop (i + 1) := by rw [List.drop_eq_getElem_cons (by rw [tl_len]; exact h2)]; rfl
      have HC : Hid (∀ v, cmp1 s[i] t[i] = v → v ≠ 0 → R = v) := by
        intro v hv h0
        rw [HR.out, cmpB_take i _ _ hz.out (by rw [tl_len]; omega) (by rw [tl_len]; omega), d1, d2, cmpB_hd (by rw [hv]; exact h0), hv]
      have HN : Hid (s[i] = t[i] → (tl s).take (i + 1) = (tl t).take (i + 1)) := by
        intro e
        rw [List.take_add_one, List.take_add_one, hz.out, g1, g2, e]
      clear g1 g2 d1 d2 hz
      go_wp2_with fail
      go_quiet (fail)
      go_wp2_with fail
      · have hl : s[i].toNat < t[i].toNat := by assumption
        go_ret
        refine ⟨ret_i (HC.out _ (by unfold cmp1; rw [if_pos (by omega)]) (by omega)).symm, hq.trans ⟨_, rfl⟩⟩
      · have hl : ¬ s[i].toNat < t[i].toNat := by assumption
        go_quiet (fail)
        go_wp2_with fail
        · have hl2 : t[i].toNat < s[i].toNat := by assumption
          go_ret
          refine ⟨ret_i (HC.out _ (by unfold cmp1; rw [if_neg (by omega), if_pos (by omega)]) (by omega)).symm, (hq.trans ⟨_, rfl⟩).trans ⟨_, rfl⟩⟩
        · have hl2 : ¬ t[i].toNat < s[i].toNat := by assumption
          go_roundw
          case rel => exact ⟨i + 1, h1, h2, by go_num, HN.out (UInt8.toNat_inj.1 (by omega)), hq.trans ⟨_, rfl⟩⟩
          case measure => simp [intOf]; omega
    · have hor : (s.size : Int) ≤ (i : Int) ∨ (i : Int) < (s.size : Int) ∧ (t.size : Int) ≤ (i : Int) := by omega
      rcases hor with h1 | ⟨h1, h2⟩
      all_goals
        clear hlt
        go_wp2_with (go_at_call 142; refine (less_any _ _ _).mono ?_; rintro e w2 ⟨rfl, rfl⟩)
        go_ret
        refine ⟨ret_i ?_, hq⟩
        have e := HR.out
        rw [cmpB_take i _ _ hz.out (by rw [tl_len]; omega) (by rw [tl_len]; omega)] at e
        rw [e]
        unfold cmpB
        rw [cmpL_ends cmp1 _ _ (by
          rcases (show s.size ≤ i ∨ t.size ≤ i by omega) with h | h
          · exact .inl (List.drop_of_length_le (by rw [tl_len]; exact h))
          · exact .inr (List.drop_of_length_le (by rw [tl_len]; exact h))), List.length_drop, List.length_drop, tl_len, tl_len]
        have := cmpN_add ((s.size - i : Nat) : Int) ((t.size - i : Nat) : Int) (i : Int)
        rw [← this]
        congr 1 <;> omega

/-- how two rows stand when they are alike so far and then part -/
theorem cmpP_at {i : Nat} {a b : List (List UInt8)} {x y : List UInt8} (h : a.take i = b.take i) (hx : a[i]? = some x) (hy : b[i]? = some y) (hne : cmpB x y ≠ 0) : cmpP a b = cmpB x y := by
  obtain ⟨h1, rfl⟩ := List.getElem?_eq_some_iff.1 hx
  obtain ⟨h2, rfl⟩ := List.getElem?_eq_some_iff.1 hy
  rw [cmpP_take i a b h (by omega) (by omega), List.drop_eq_getElem_cons h1, List.drop_eq_getElem_cons h2]
  show cmpL cmpB _ _ = _
  rw [cmpL, if_neg hne]

set_option maxRecDepth 100000 in
set_option maxHeartbeats 1000000 in
theorem refCompare_any (s t : ByteArray) (hs : s.size ≤ 1048576) (ht : t.size ≤ 1048576) (w : World) : Calls Tryz.prog 122 #[.string s, .string t] w fun e w' => e = .returned (.int .i64 (cmpT (tl s) (tl t))) ∧ Below w.heap.size w w' := by
  obtain ⟨R, hR⟩ : ∃ R, R = cmpT (tl s) (tl t) := ⟨_, rfl⟩
  rw [← hR]
  have HR := Lib.hid hR
  clear hR
  go_enter Tryz.func122, Tryz.ntmps122
  go_wp2_with fail
  refine (refCut_any s hs _).mono ?_
  rintro e w1 ⟨A, c, x, rfl, hx, hsx, hb⟩
  go_wp2_with fail
  refine (refCut_any t ht _).mono ?_
  rintro e w2 ⟨A', c', y, rfl, hy, hsy, hb2⟩
  replace hsx := hsx.below hb2
  have hbb := bthen hb hb2
  have hxl : x.length ≤ 1048577 := by
    have := cutL_len (tl s)
    rw [hx.out]
    rw [tl_len] at this
    omega
  have hyl : y.length ≤ 1048577 := by
    have := cutL_len (tl t)
    rw [hy.out]
    rw [tl_len] at this
    omega
  have hxm : ∀ z ∈ x, z.length ≤ 1048576 := by
    intro z hz
    rw [hx.out] at hz
    have := cut_mem_len _ _ hz
    rw [tl_len] at this
    omega
  have hym : ∀ z ∈ y, z.length ≤ 1048576 := by
    intro z hz
    rw [hy.out] at hz
    have := cut_mem_len _ _ hz
    rw [tl_len] at this
    omega
  have HR2 : Hid (R = cmpP x y) := by show _ = _; rw [HR.out, hx.out, hy.out]; rfl
  clear HR hx hy hb hb2
  go_wp2_with fail
  go_loopw [7] (fun iv wr => ∃ i : Nat, i ≤ x.length ∧ i ≤ y.length ∧ iv = .int .i64 (i : Int) ∧ Hid (x.take i = y.take i) ∧ Qt w2 wr) (fun iv _ => x.length - (intOf iv).toNat)
  case atStart => exact ⟨0, Nat.zero_le _, Nat.zero_le _, rfl, rfl, Qt.refl _⟩
  case round =>
    obtain ⟨i, hi, hj, rfl, hz, hq⟩ := hrel
    by_cases hlt : i < x.length ∧ i < y.length
    · obtain ⟨h1, h2⟩ := hlt
      obtain ⟨xi, hxi⟩ : ∃ z, x[i]? = some z := ⟨_, List.getElem?_eq_getElem h1⟩
      obtain ⟨yi, hyi⟩ : ∃ z, y[i]? = some z := ⟨_, List.getElem?_eq_getElem h2⟩
      obtain ⟨g, off, rfl, hgb, hgl, hcell, hfz⟩ := (hsx.below hq.below).get hxi
      obtain ⟨g', off', rfl, hgb', hgl', hcell', hfz'⟩ := (hsy.below hq.below).get hyi
      obtain ⟨C, hC⟩ : ∃ C, C = cmpB xi yi := ⟨_, rfl⟩
      have HB : Hid (∀ w, Calls Tryz.prog 141 #[.string ⟨⟨xi⟩⟩, .string ⟨⟨yi⟩⟩] w fun e w' => e = .returned (.int .i64 C) ∧ Qt w w') := by
        intro w
        rw [hC]
        exact bytes_any ⟨⟨xi⟩⟩ ⟨⟨yi⟩⟩ (hxm _ (List.mem_of_getElem? hxi)) (hym _ (List.mem_of_getElem? hyi)) w
      have HC : Hid (C ≠ 0 → R = C) := by
        intro h0
        rw [HR2.out, cmpP_at hz.out hxi hyi (by rw [← hC]; exact h0), hC]
      have HN : Hid (C = 0 → x.take (i + 1) = y.take (i + 1)) := by
        intro e
        rw [hC] at e
        rw [List.take_add_one, List.take_add_one, hz.out, hxi, hyi, (ordB.eq _ _).1 e]
      clear hxi hyi hC hz hfz hfz'
      unfold stv at hcell hcell'
      go_wp2_with fail
      go_quiet ((go_at_call 141; exact Calls.quiet_of (HB.out _)))
      by_cases hC0 : C = 0
      · have HN2 := Lib.hid (HN.out hC0)
        subst hC0
        go_wp2_with fail
        go_roundw
        case rel => exact ⟨i + 1, h1, h2, by go_num, HN2.out, hq.trans ⟨_, rfl⟩⟩
        case measure => simp [intOf]; omega
      · have HN2 := Lib.hid (HC.out hC0)
        have hne : (C == 0) = false := by simpa using hC0
        have hne2 : (C != 0) = true := by simpa using hC0
        go_wp2_with fail
        go_ret
        exact ⟨ret_i HN2.out.symm, hbb.trans ((hq.trans ⟨_, rfl⟩).below.mono hbb.size)⟩
    · have hor : (x.length : Int) ≤ (i : Int) ∨ (i : Int) < (x.length : Int) ∧ (y.length : Int) ≤ (i : Int) := by omega
      rcases hor with h1 | ⟨h1, h2⟩
      all_goals
        clear hlt
        go_wp2_with (go_at_call 142; refine (less_any _ _ _).mono ?_; rintro e w2 ⟨rfl, rfl⟩)
        go_ret
        refine ⟨ret_i ?_, hbb.trans (hq.below.mono hbb.size)⟩
        have e := HR2.out
        rw [cmpP_take i _ _ hz.out (by omega) (by omega)] at e
        rw [e]
        unfold cmpP
        rw [cmpL_ends cmpB _ _ (by
          rcases (show x.length ≤ i ∨ y.length ≤ i by omega) with h | h
          · exact .inl (List.drop_of_length_le h)
          · exact .inr (List.drop_of_length_le h)), List.length_drop, List.length_drop]
        have := cmpN_add ((x.length - i : Nat) : Int) ((y.length - i : Nat) : Int) (i : Int)
        rw [← this]
        congr 1 <;> omega
end Go.Proofs.YtdnljmncdbcgeaaGreat

/- tenderref08: a tree is a row of items; Get, without, Put. -/
namespace Go.Proofs.YtdnljmncdbcgeaaGreat
open Go.RowKit

/-- an item's cells -/
def itemC (x : List UInt8 × LV) : List Value := [stv x.1, .int .i64 x.2.k, .slice x.2.x.A x.2.x.l.length x.2.x.c]
theorem item_len (x : List UInt8 × LV) : (itemC x).length = 3 := rfl
/-- a slice of items reads as a row -/
structure Its (w : World) (A : Option Addr) (L : List (List UInt8 × LV)) : Prop where
  rd : Rd w (fun _ => True) 3 A L.length (L.flatMap itemC)
  ok : ∀ x ∈ L, x.2.x.ok w (fun _ => True)
  len : L.length ≤ 1099511627776
  txt : ∀ x ∈ L, x.1.length ≤ 1048576 ∧ x.2.x.l.length ≤ 140737488355328
theorem Its.nil (w : World) : Its w none [] := ⟨Rd.nil, by simp, by simp, by simp⟩
theorem Its.below {w w' : World} {A : Option Addr} {L : List (List UInt8 × LV)} (h : Its w A L) (k : Below w.heap.size w w') : Its w' A L := ⟨h.rd.below k, fun x hx => (h.ok x hx).below k, h.len, h.txt⟩
theorem Its.at_ {w : World} {A : Option Addr} {L : List (List UInt8 × LV)} {i : Nat} (h : Its w A L) (hi : i < L.length) :
    ∃ b off, A = some ⟨b, off, none⟩ ∧ b < w.heap.size ∧ w.cell? ⟨b, off + i * 3, none⟩ = some (stv L[i].1) ∧ w.cell? ⟨b, off + i * 3 + 1, none⟩ = some (.int .i64 L[i].2.k) ∧ w.cell? ⟨b, off + i * 3 + 2, none⟩ = some (.slice L[i].2.x.A L[i].2.x.l.length L[i].2.x.c) := by
  obtain ⟨b, off, hA, _, hb, hc⟩ := h.rd.2 (by omega)
  have hg : ∀ j, j < 3 → (L.flatMap itemC)[i * 3 + j]? = (itemC L[i])[j]? := fun j hj => flat_get (k := 3) item_len L i j hi hj
  refine ⟨b, off, hA, hb, hc _ _ (hg 0 (by omega)), ?_, ?_⟩
  · rw [Nat.add_assoc]; exact hc _ _ (hg 1 (by omega))
  · rw [Nat.add_assoc]; exact hc _ _ (hg 2 (by omega))
theorem item_info : (Tryz.prog.info? 76).map (fun i => (i.zero, i.size, i.bytes)) = some (some (.agg #[.string ⟨#[]⟩, .int .i64 0, .slice none 0 0]), 3, 48) := by kernel_rfl
theorem item_one (L : List (List UInt8 × LV)) : ∀ u ∈ L.flatMap itemC, u.oneCell' = true := by
  intro u hu
  obtain ⟨x, _, hx⟩ := List.mem_flatMap.1 hu
  simp only [itemC, List.mem_cons, List.not_mem_nil, or_false] at hx
  rcases hx with rfl | rfl | rfl <;> rfl
/-- a row of items of the call's own -/
def OwI (w : World) (base : Nat) (A : Option Addr) (c : Nat) (L : List (List UInt8 × LV)) : Prop := w.ownsRow base 76 3 (.slice A L.length c) L.length (L.flatMap itemC)
theorem OwI.below {w w' : World} {base : Nat} {A : Option Addr} {c : Nat} {L : List (List UInt8 × LV)} (h : OwI w base A c L) (k : Below w.heap.size w w') : OwI w' base A c L := own_below h k
theorem OwI.its {w : World} {base : Nat} {A : Option Addr} {c : Nat} {L : List (List UInt8 × LV)} (h : OwI w base A c L) (hok : ∀ x ∈ L, x.2.x.ok w (fun _ => True)) (hl : L.length ≤ 1099511627776) (ht : ∀ x ∈ L, x.1.length ≤ 1048576 ∧ x.2.x.l.length ≤ 140737488355328) : Its w A L :=
  ⟨Rd.of_own h (fun _ _ _ => trivial), hok, hl, ht⟩
theorem OwI.grown {w w' : World} {base : Nat} {A : Option Addr} {c : Nat} {L : List (List UInt8 × LV)} (h : OwI w base A c L) (hg : w.grownBy w' (Value.slice A L.length c).ownBlock) (hb : base ≤ w.heap.size) : Below base w w' :=
  grown_below hg hb (fun g e => (h.lt g e).1)
/-- append of one item -/
theorem wpList_append_item {w : World} {ops : Array Oper} {rest : List Oper} {o : Oper} {a : Act} {Q : Exit → Act → World → Prop} (hgd : o.guard = none) (s x : Operand) {t : TypeId} (hu : Tryz.prog.underlying t = some (.slice 76))
    (ho : o.op = .call { callee := .builtin .append, args := #[s, x], argTypes := #[t, t] })
    {base : Nat} {A : Option Addr} {c : Nat} {L : List (List UInt8 × LV)} {y : List UInt8 × LV} {g : Nat} (hs : a.eval s = .slice A L.length c) (hown : OwI w base A c L) (hx : a.eval x = .slice (some ⟨g, 0, none⟩) 1 1) (hr : Rd w (fun _ => True) 3 (some ⟨g, 0, none⟩) 1 (itemC y))
    (hsum : L.length + 1 ≤ 1099511627776) (hbase : base ≤ w.heap.size)
    (h : ∀ (A' : Option Addr) (c' : Nat) (w' : World), OwI w' base A' c' (L ++ [y]) → Below base w w' → (∀ k, k < w.heap.size → (Value.slice A L.length c).ownBlock ≠ some k → w'.heap[k]? = w.heap[k]?) → wpList Tryz.prog ops Q rest (a.put o.dst (.slice A' (L.length + 1) c')) w') : wpList Tryz.prog ops Q (o :: rest) a w := by
  obtain ⟨i0, hi0, hz0, hz1, hz2⟩ := info_parts item_info
  refine wpList_append_any w hgd s x _ ho base 76 i0 _ 3 48 hu hi0 hz0 hz1 hz2 rfl (by omega) (.slice A L.length c) L.length (L.flatMap itemC) hs hown _ _ 1 1 (itemC y) hx hr (fun u hu => item_one [y] u (by simpa using hu)) (by simp only [maxLen]; omega) (by omega) hbase ?_
  intro v' w' h1 h2 h3
  obtain ⟨A', c', rfl, _⟩ := own_form h1
  refine h A' c' w' ?_ (grown_below h2 hbase (fun g e => (hown.lt g e).1)) (fun k hk hne => h2.block k hk (fun e => hne e.symm))
  unfold OwI
  rw [List.length_append, List.flatMap_append, List.flatMap_cons, List.flatMap_nil, List.append_nil]
  exact h1
end Go.Proofs.YtdnljmncdbcgeaaGreat
