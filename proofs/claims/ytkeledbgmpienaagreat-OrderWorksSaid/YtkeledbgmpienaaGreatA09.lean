/- tenderlaw08: lives, Light. -/
import Derived.Test.YtkeledbgmpienaaGreatA08
import Derived.Lib.SlicesCompact
import Derived.Shelf.Small.Bits
import Derived.Sort.OwnSorted
import Derived.LoopTactic
import Derived.WalkMore
import Derived.ScopeJumps
import Derived.Deep.RegionHeld3
import Derived.Deep.Cut

namespace Go.Proofs.YtkeledbgmpienaaGreat
open Go.RowKit Go.Maps

/-- are there few items, and small ones? -/
def bytesI (L : List (List UInt8 × LV)) : Nat := (L.map fun x => x.2.x.l.length).sum
def lightI (L : List (List UInt8 × LV)) : Bool := L.all (fun x => decide (x.1.length ≤ 200)) && (decide (L.length ≤ 200) && decide (bytesI L ≤ 20000))
theorem bytesI_take (L : List (List UInt8 × LV)) (i : Nat) (hi : i < L.length) : bytesI (L.take (i + 1)) = bytesI (L.take i) + L[i].2.x.l.length := by
  unfold bytesI
  rw [List.take_succ_eq_append_getElem hi, List.map_append, List.sum_append]
  simp
theorem bytesI_le (K : Nat) : ∀ (L : List (List UInt8 × LV)), (∀ o ∈ L, o.2.x.l.length ≤ K) → bytesI L ≤ L.length * K
  | [], _ => by simp [bytesI]
  | o :: l, h => by
    have h1 := h o (by simp)
    have h2 := bytesI_le K l (fun o ho => h o (by simp [ho]))
    simp only [bytesI, List.map_cons, List.sum_cons, List.length_cons, Nat.add_mul] at h2 ⊢
    omega
theorem bytesI_take_le (K : Nat) (l : List (List UInt8 × LV)) (i : Nat) (h : ∀ o ∈ l, o.2.x.l.length ≤ K) : bytesI (l.take i) ≤ i * K := by
  have h1 := bytesI_le K (l.take i) (fun o ho => h o (List.mem_of_mem_take ho))
  have h2 : (l.take i).length ≤ i := List.length_take_le _ _
  have h3 : (l.take i).length * K ≤ i * K := Nat.mul_le_mul_right _ h2
  omega
/-- the sum that Light has made: right while few have been seen -/
def SeenI (l : List (List UInt8 × LV)) (i : Nat) (s : Int) : Prop := i ≤ 400 → s = (bytesI (l.take i) : Int)
theorem seenI_step {l : List (List UInt8 × LV)} {i : Nat} {s : Int} (hs : SeenI l i s) (hi : i < l.length) (h : ∀ o ∈ l, o.2.x.l.length ≤ 140737488355328) : SeenI l (i + 1) (wrap64 (s + (l[i].2.x.l.length : Int))) := by
  intro hi2
  have e := hs (by omega)
  have h1 := bytesI_take_le 140737488355328 l (i + 1) h
  have h2 := bytesI_take l i hi
  have h3 : (i + 1) * 140737488355328 ≤ 401 * 140737488355328 := Nat.mul_le_mul_right _ (by omega)
  rw [h2] at h1 ⊢
  rw [e, IntWalk.wrap64_in _ ⟨by omega, by omega⟩]
  omega
theorem le_sum : ∀ (l : List Nat) (n : Nat), n ∈ l → n ≤ l.sum
  | [], _, h => by cases h
  | m :: l, n, h => by
    rw [List.sum_cons]
    rcases List.mem_cons.1 h with rfl | h
    · omega
    · have := le_sum l n h
      omega
theorem lightI_len {L : List (List UInt8 × LV)} (h : lightI L = true) : L.length ≤ 200 ∧ ∀ x ∈ L, x.1.length ≤ 200 ∧ x.2.x.l.length ≤ 20000 := by
  unfold lightI at h
  simp only [Bool.and_eq_true, decide_eq_true_eq, List.all_eq_true] at h
  refine ⟨h.2.1, fun x hx => ⟨h.1 x hx, ?_⟩⟩
  have h1 : x.2.x.l.length ≤ bytesI L := by
    unfold bytesI
    exact le_sum _ _ (List.mem_map.2 ⟨x, hx, rfl⟩)
  omega
set_option maxRecDepth 100000 in
set_option maxHeartbeats 400000 in
theorem lightI_any (A : Option Addr) (c : Nat) (l : List (List UInt8 × LV)) (w : World) (h : ItA w A l) :
    Calls Tryz.prog 4 #[.slice A l.length c] w fun e w' => e = .returned (.bool (lightI l)) ∧ Below w.heap.size w w' := by
  have hlen := h.len
  go_enter Tryz.func4, Tryz.ntmps4
  go_wp2_with fail
  go_loopw [3, 8] (fun sv iv wr => ∃ (i : Nat) (s : Int), i ≤ l.length ∧ iv = .int .i64 (i : Int) ∧ sv = .int .i64 s ∧ SeenI l i s ∧ (∀ x ∈ l.take i, x.1.length ≤ 200) ∧ Below w.heap.size w wr) (fun _ iv _ => l.length - (intOf iv).toNat)
  case atStart => exact ⟨0, 0, Nat.zero_le _, rfl, rfl, by intro _; simp [bytesI], by simp, Below.refl _ _⟩
  case round =>
    obtain ⟨i, s, hi, rfl, rfl, hs, hp, hb⟩ := hrel
    by_cases hlt : i < l.length
    · obtain ⟨b, off, rfl, hbb, hc0, hc1, hc2⟩ := (h.below hb).at_ hlt
      have hsz := hb.size
      have hok := h.ok _ (List.getElem_mem hlt)
      have hxl := hok.1.len
      have hpl := hok.2
      have hst := Lib.hid (seenI_step hs hlt (fun o ho => (h.ok o ho).1.len))
      have hmem := List.getElem_mem hlt
      have hp2 : l[i].1.length ≤ 200 → Hid (∀ x ∈ l.take (i + 1), x.1.length ≤ 200) := fun h2 => Lib.hid (by
        rw [List.take_succ_eq_append_getElem hlt]
        intro x hx
        rcases List.mem_append.1 hx with hx | hx
        · exact hp x hx
        · rw [List.mem_singleton.1 hx]; exact h2)
      have hno : ¬ l[i].1.length ≤ 200 → Hid (lightI l = false) := fun h2 => Lib.hid (by
        unfold lightI
        rw [Bool.and_eq_false_iff]
        refine .inl ?_
        rw [List.all_eq_false]
        exact ⟨_, hmem, by simpa using h2⟩)
      clear hok hmem hp
      generalize l[i] = o at *
      obtain ⟨p, k, xA, xc, xl⟩ := o
      simp only [stv] at *
      by_cases h2 : p.length ≤ 200
      · have hp3 := hp2 h2
        clear hp2 hno
        go_wp2_with fail
        go_roundw
        case rel => exact ⟨i + 1, _, hlt, by go_num, rfl, by have := hst.out; push_cast at this; exact this, hp3.out, (hb.alloc hsz _)⟩
        case measure => simp [intOf]; omega
      · have hn := hno h2
        clear hp2 hno
        go_wp2_with fail
        go_ret
        exact ⟨ret_b hn.out.symm, hb.alloc hsz _⟩
    · have e : i = l.length := by omega
      subst e
      rw [List.take_length] at hp
      have hall : l.all (fun x => decide (x.1.length ≤ 200)) = true := by simpa using hp
      have hli : Hid (lightI l = (decide (l.length ≤ 200) && decide (bytesI l ≤ 20000))) := Lib.hid (by unfold lightI; rw [hall]; simp)
      by_cases h2 : l.length ≤ 200
      · have hss := hs (by omega)
        rw [List.take_length] at hss
        subst hss
        clear hp hall
        go_wp2
        all_goals
          go_ret
          exact ⟨ret_b (by rw [hli.out, Bool.eq_iff_iff]; simp; omega), hb⟩
      · clear hp hall
        go_wp2
        all_goals
          go_ret
          exact ⟨ret_b (by rw [hli.out, Bool.eq_iff_iff]; simp; omega), hb⟩
end Go.Proofs.YtkeledbgmpienaaGreat

/- tree.Diff, Same. -/
namespace Go.Proofs.YtkeledbgmpienaaGreat
open Go.RowKit

/-- a tree, or none -/
def TreeP (w : World) (v : Option Addr) (L : List (List UInt8 × LV)) : Prop := (v = none ∧ L = []) ∨ ∃ tb mo, v = some ⟨tb, 0, none⟩ ∧ TreeAt w tb mo L
theorem TreeP.below {w w' : World} {v : Option Addr} {L : List (List UInt8 × LV)} (h : TreeP w v L) (k : Below w.heap.size w w') : TreeP w' v L := h.imp id fun ⟨tb, mo, e, ht⟩ => ⟨tb, mo, e, ht.below k⟩
theorem TreeP.ok {w : World} {v : Option Addr} {L : List (List UInt8 × LV)} (h : TreeP w v L) : TreeOk (plainL L) := by
  rcases h with ⟨_, rfl⟩ | ⟨tb, mo, _, ht⟩
  · exact TreeOk.nil
  · exact ht.plain
end Go.Proofs.YtkeledbgmpienaaGreat

/- What slices.Compact makes of a sorted row of texts: plain. -/
namespace Go.Proofs.YtkeledbgmpienaaGreat
open Go.RowKit Go.Lib

end Go.Proofs.YtkeledbgmpienaaGreat

/- slices.SortFunc of texts by name.Compare: a row of the call's own, in the paths' order. -/
namespace Go.Proofs.YtkeledbgmpienaaGreat
open Go.Shelf Go.RowKit Go.Lib Go.Sort

/-- a text that is no longer than a text may be -/
abbrev TxtB := { l : List UInt8 // l.length ≤ 9223372036854775807 }
instance : Inhabited TxtB := ⟨⟨[], by simp⟩⟩
def txtV (x : TxtB) : Value := .string ⟨⟨x.1⟩⟩
def cmpX (x y : TxtB) : Int := cmpT x.1 y.1

section
variable {α : Type} [Inhabited α] {enc : α → Value}
theorem heap_sortedG {w : World} {g n : Nat} {os : Array Obj} {cur : Array Value} {e : TypeId} {fr : Nat × Nat} (d : Array α) (hb : w.heap[g]? = some (.cells cur e fr)) :
    (grow (putRow enc (Sort.ahead w n) g 0 d) os).heap[g]? = some (.cells (putCells enc 0 d cur) e fr) := by
  have hg : g < w.heap.size := (Array.getElem?_eq_some_iff.1 hb).1
  rw [heap_grow_old _ _ (by simpa using hg)]
  simp [putRow, mapBlock, Sort.ahead, Array.getElem?_modify, hb, onCells]
theorem grownBy_sortedG {w : World} {g n : Nat} {os : Array Obj} (d : Array α) : w.grownBy (grow (putRow enc (Sort.ahead w n) g 0 d) os) (some g) := by
  refine ⟨rfl, rfl, rfl, by simp, fun k hk hne => ?_⟩
  rw [heap_grow_old _ _ (by simpa using hk)]
  have : g ≠ k := fun e => hne (by rw [e])
  simp [putRow, mapBlock, Sort.ahead, Array.getElem?_modify, this]
theorem take_putCellsG (cur : Array Value) (ts : List α) (h : ts.length ≤ cur.size) : (putCells enc 0 ts.toArray cur).toList.take ts.length = ts.map enc := by
  apply List.ext_getElem?
  intro j
  by_cases hj : j < ts.length
  · rw [List.getElem?_take_of_lt hj, Array.getElem?_toList]
    simp [putCells, hj, show j < cur.size by omega]
  · rw [List.getElem?_take_eq_none (by omega), List.getElem?_eq_none (by simp; omega)]
theorem ownsRow_sortedG {w : World} {base g cap n : Nat} {e : TypeId} {os : Array Obj} {cur : Array Value} {ss ts : List α} (hl : ts.length = ss.length) (hbase : base ≤ g) (hb : w.heap[g]? = some (.cells cur e (0, 0)))
    (h1 : ss.length ≤ cap) (h2 : cap ≤ maxLen) (h3 : cur.size = cap * 1) :
    (grow (putRow enc (Sort.ahead w n) g 0 ts.toArray) os).ownsRow base e 1 (.slice (some ⟨g, 0, none⟩) ss.length cap) ss.length (ts.map enc) :=
  ⟨by simp [hl], .inr ⟨g, cap, _, rfl, hbase, heap_sortedG _ hb, h1, h2, by simp [putCells, h3], by rw [Nat.mul_one, ← hl]; exact take_putCellsG cur ts (by omega)⟩⟩
theorem holds_of_blockG {w : World} {g : Nat} {cur : Array Value} {e : TypeId} {ss : List α} (hb : w.heap[g]? = some (.cells cur e (0, 0))) (ht : cur.toList.take ss.length = ss.map enc) : Holds enc w g 0 ss.toArray := by
  intro j hj
  have hj' : j < ss.length := by simpa using hj
  refine ⟨?_, by simp [World.frozen?, hb]⟩
  have h1 : (cur.toList.take ss.length)[j]? = (ss.map enc)[j]? := by rw [ht]
  rw [List.getElem?_take_of_lt hj'] at h1
  simp only [World.cell?, hb, Nat.zero_add]
  simp only [Option.isSome_none, Bool.false_eq_true, if_false]
  rw [← Array.getElem?_toList, h1]
  simp [hj']
end
theorem cmpX_lt (x y : TxtB) : ltOf cmpX x y = decide (cmpT x.1 y.1 < 0) := rfl
theorem swoX : SWO (ltOf cmpX) where
  irrefl x := by rw [cmpX_lt, cmpT_self]; simp
  trans x y z h1 h2 := by
    rw [cmpX_lt] at *
    simp only [decide_eq_true_eq] at *
    exact ordT.trans _ _ _ h1 h2
  ntrans x y z h1 h2 := by
    rw [cmpX_lt] at *
    have := leT_trans z.1 y.1 x.1 (by simpa [leT] using h2) (by simpa [leT] using h1)
    simpa [leT] using this
theorem totX (x y : TxtB) (h1 : ltOf cmpX x y = false) (h2 : ltOf cmpX y x = false) : x = y := by
  rw [cmpX_lt] at *
  exact Subtype.ext (leT_anti x.1 y.1 (by simpa [leT] using h2) (by simpa [leT] using h1))
theorem cmpReadsX (blk off size : Nat) (w : World) : CmpReads Tryz.prog 34 #[] txtV cmpX blk off size w := by
  intro m os dk _ x y
  refine (compare_any ⟨⟨x.1⟩⟩ ⟨⟨y.1⟩⟩ x.2 y.2 _).mono ?_
  rintro e w' ⟨rfl, hq⟩
  exact ⟨rfl, hq⟩
theorem txts : ∀ (ss : List (List UInt8)), (∀ x ∈ ss, x.length ≤ 140737488355328) → ∃ ts : List TxtB, ts.map Subtype.val = ss
  | [], _ => ⟨[], rfl⟩
  | x :: ss, h => by
    obtain ⟨ts, e⟩ := txts ss (fun y hy => h y (by simp [hy]))
    exact ⟨⟨x, by have := h x (by simp); omega⟩ :: ts, by rw [List.map_cons, e]⟩
set_option maxHeartbeats 1000000 in
/-- a row of texts is sorted by name.Compare -/
theorem sortsT : SortsT := by
  intro base A c ss w hown hl hss
  obtain ⟨ts, hts⟩ := txts ss hl
  have hlen : ts.length = ss.length := by rw [← hts, List.length_map]
  have hmv : ss.map stv = ts.map txtV := by rw [← hts, List.map_map]; rfl
  rcases hown.2 with ⟨hnil, h0⟩ | ⟨g, cap, cur, hv, hbase, hb, h1, h2, h3, h4⟩
  · obtain ⟨rfl, hl0, rfl⟩ : A = none ∧ ss.length = 0 ∧ c = 0 := by simpa using hnil
    obtain rfl : ss = [] := List.eq_nil_of_length_eq_zero hl0
    have hcon := AnyF.slices_SortFunc_none { Tryz.sortT with } none 0 (.func (.func 34) #[] #[]) w
    change Calls Tryz.prog 83 _ _ _ at hcon
    refine hcon.mono ?_
    rintro e w' ⟨rfl, rfl⟩
    exact ⟨rfl, by simpa using hown, World.grownBy.refl _ _⟩
  · obtain ⟨rfl, rfl⟩ : A = some ⟨g, 0, none⟩ ∧ c = cap := by simpa using hv
    have eg : ∀ args w, (callFunc 34 args).run Tryz.prog w = .ok (.enter 34 args) w := enters_of Tryz.func34 (by kernel_rfl) rfl
    have hglt : g < w.heap.size := (Array.getElem?_eq_some_iff.1 hb).1
    have hH : Holds txtV w g 0 ts.toArray := holds_of_blockG hb (by rw [hlen, ← hmv]; simpa using h4)
    have hbig : ss.length < 4611686018427387904 := by omega
    have hcon := Any.slices_SortFunc_total Tryz.sortT txtV (fun _ => rfl) cmpX swoX 34 #[] g 0 c ts.toArray w eg (cmpReadsX g 0 ts.toArray.size w).lays hH hglt (by simpa [hlen] using hbig) totX
    change Calls Tryz.prog 83 _ _ _ at hcon
    rw [show ts.toArray.size = ss.length by simp [hlen]] at hcon
    refine hcon.mono ?_
    rintro e w' ⟨rfl, n, os, rfl⟩
    have hms : (ts.mergeSort fun x y => !(ltOf cmpX) y x).map Subtype.val = ss.mergeSort leT := by
      rw [← hts]
      exact List.map_mergeSort (fun a _ b _ => rfl)
    refine ⟨rfl, ?_, ?_⟩
    · have := ownsRow_sortedG (enc := txtV) (n := n) (os := os) (ts := ts.mergeSort fun x y => !(ltOf cmpX) y x) (ss := ts) (by rw [List.length_mergeSort]) hbase hb (by omega) h2 h3
      rw [hlen] at this
      have e2 : (ss.mergeSort leT).map stv = (ts.mergeSort fun x y => !(ltOf cmpX) y x).map txtV := by rw [← hms, List.map_map]; rfl
      rw [e2]
      exact this
    · exact grownBy_sortedG _
end Go.Proofs.YtkeledbgmpienaaGreat

/- slices.Compact of a sorted row of texts of the call's own. -/
namespace Go.Proofs.YtkeledbgmpienaaGreat
open Go.Shelf Go.RowKit Go.Lib Go.Sort

end Go.Proofs.YtkeledbgmpienaaGreat

/- tree.Diff: the walk. -/
namespace Go.Proofs.YtkeledbgmpienaaGreat
open Go.RowKit Go.Lib

theorem union_keys (ps : List (List UInt8)) : SortR (unionR ps) ∧ ∀ k, k ∈ keysR (unionR ps) ↔ k ∈ ps := by
  have : ∀ (qs : List (List UInt8)) (T : List (List UInt8 × LV)), SortR T → SortR (qs.foldl (fun T p => putR T p dirV) T) ∧ ∀ k, k ∈ keysR (qs.foldl (fun T p => putR T p dirV) T) ↔ (k ∈ keysR T ∨ k ∈ qs) := by
    intro qs
    induction qs with
    | nil => intro T h; exact ⟨h, by simp⟩
    | cons q qs ih =>
      intro T h
      obtain ⟨h1, h2⟩ := ih (putR T q dirV) (h.put q dirV)
      refine ⟨h1, fun k => ?_⟩
      rw [List.foldl_cons, h2, ← getR_isSome, getR_put]
      by_cases e : k = q
      · rw [if_pos e]; simp [e]
      · rw [if_neg e, getR_isSome]; simp [e]
  have := this ps [] sortR_nil
  exact ⟨this.1, fun k => by rw [show unionR ps = ps.foldl (fun T p => putR T p dirV) [] from rfl, this.2 k]; simp [keysR]⟩
end Go.Proofs.YtkeledbgmpienaaGreat

/- tree: Same, and a tree that is none. -/
namespace Go.Proofs.YtkeledbgmpienaaGreat
open Go.RowKit

end Go.Proofs.YtkeledbgmpienaaGreat

/- tenderlaw08: Plays. -/
namespace Go.Proofs.YtkeledbgmpienaaGreat
open Go.RowKit Go.Maps

/-- a tree on which items were set, and the document's -/
structure Played (w : World) (T : List (List UInt8 × LP)) (tb : Nat) (mo : Option Nat) (L : List (List UInt8 × LV)) (B : Option Addr) (M : List (List UInt8 × LV)) : Prop where
  tree : TreeAt w tb mo L
  plain : Hid (plainL L = T)
  its : Its w B M
  same : Hid (plainL M = T)
theorem Played.below {w w' : World} {T : List (List UInt8 × LP)} {tb : Nat} {mo : Option Nat} {L M : List (List UInt8 × LV)} {B : Option Addr} (h : Played w T tb mo L B M) (k : Below w.heap.size w w') : Played w' T tb mo L B M := ⟨h.tree.below k, h.plain, h.its.below k, h.same⟩


set_option maxRecDepth 100000 in
set_option maxHeartbeats 1000000 in
theorem plays08_any (A : Option Addr) (c : Nat) (l : List (List UInt8 × LV)) (w : World) (h : ItA w A l) (hl : l.length ≤ 200 ∧ ∀ x ∈ l, x.1.length ≤ 200 ∧ x.2.x.l.length ≤ 20000) :
    Calls Tryz.prog 6 #[.slice A l.length c] w fun e w' => ∃ (tb : Nat) (mo : Option Nat) (L : List (List UInt8 × LV)) (B : Option Addr) (d : Nat) (M : List (List UInt8 × LV)), e = .returned (.tuple #[.pointer (some ⟨tb, 0, none⟩), .slice B M.length d, .bool true]) ∧ Played w' (playS [] (plainL l)) tb mo L B M ∧
      w.heap.size ≤ tb ∧ (∀ m, mo = some m → w.heap.size ≤ m) ∧ Below w.heap.size w w' := by
  have HA := Lib.hid h
  clear h
  go_enter Tryz.func6, Tryz.ntmps6
  go_wp2_with fail
  refine (treeNew_nil w).mono ?_
  rintro e w1 ⟨rfl, ht1, hb1⟩
  obtain ⟨tb, htb⟩ : ∃ tb, tb = w.heap.size := ⟨_, rfl⟩
  rw [← htb] at ht1
  rw [← htb]
  have HT1 := Lib.hid ht1
  have htw : w.heap.size ≤ tb := by omega
  clear ht1 htb
  go_wp2_with fail
  go_loopw [7, 24] (fun wv iv wr => ∃ (i : Nat) (mo : Option Nat) (L : List (List UInt8 × LV)) (B : Option Addr) (d : Nat) (M : List (List UInt8 × LV)), i ≤ l.length ∧ iv = .int .i64 (i : Int) ∧ wv = .slice B M.length d ∧ Played wr (playS [] (plainL (l.take i))) tb mo L B M ∧ (∀ m, mo = some m → w.heap.size ≤ m) ∧ Below w.heap.size w wr) (fun _ iv _ => l.length - (intOf iv).toNat)
  case atStart => exact ⟨0, none, [], none, 0, [], Nat.zero_le _, rfl, rfl, ⟨HT1.out, rfl, Its.nil _, rfl⟩, by simp, hb1⟩
  case round =>
    obtain ⟨i, mo, L, B, d, M, hi, rfl, rfl, hP, hmo, hb⟩ := hrel
    by_cases hlt : i < l.length
    · have hA := HA.out.below hb
      obtain ⟨b, off, rfl, hbb, hc0, hc1, hc2⟩ := hA.at_ hlt
      have hxo := hA.ok _ (List.getElem_mem hlt)
      have hxl := hl.2 _ (List.getElem_mem hlt)
      have hps : Hid (playS [] (plainL (l.take (i + 1))) = setS (playS [] (plainL (l.take i))) l[i].1 l[i].2.p) := Lib.hid (by rw [plain_snoc l i hlt, play_snoc])
      have hsz := hb.size
      obtain ⟨x, hx⟩ : ∃ x, x = l[i] := ⟨_, rfl⟩
      rw [← hx] at hc0 hc1 hc2 hxo hxl hps
      simp only [stv] at hc0
      obtain ⟨T, hT⟩ : ∃ T, T = playS [] (plainL (l.take i)) := ⟨_, rfl⟩
      rw [← hT] at hP hps
      have hba : Below wr.heap.size wr (wr.alloc (.cells #[.string ⟨⟨x.1⟩⟩, .int .i64 x.2.k, .slice x.2.x.A x.2.x.l.length x.2.x.c] 37)) := (Below.refl _ _).alloc (Nat.le_refl _) _
      have xb := Blk.new wr 37 #[.string ⟨⟨x.1⟩⟩, .int .i64 x.2.k, .slice x.2.x.A x.2.x.l.length x.2.x.c]
      have hP1 := hP.below hba
      have hw1 := hb.trans (hba.mono hb.size)
      have HX1 := Lib.hid (hxo.1.x.below hba)
      have HP1 := Lib.hid hP1
      have htl := hP.tree.blk.lt
      have hml := hP.tree.lt
      obtain ⟨hx1, hx2⟩ := hxl
      have hok : TreeOk (plainL M) := by rw [hP.same.out, ← hP.plain.out]; exact hP.tree.plain
      have hMS : mayS (plainL M) x.1 (x.2.k, x.2.x.l) = mayS T x.1 (x.2.k, x.2.x.l) := by rw [hP.same.out]
      have HLM : Hid (mayS (plainL L) x.1 (x.2.k, x.2.x.l) = mayS T x.1 (x.2.k, x.2.x.l)) := Lib.hid (by rw [hP.plain.out])
      have q0 := xb.cell 0
      have q1 := xb.cell 1
      have q2 := xb.cell 2
      simp only [List.getElem?_toArray, List.getElem?_cons_zero, List.getElem?_cons_succ] at q0 q1 q2
      clear hP hA hxo hx hT hP1
      go_wp2_with fail
      refine (refSet_any B d M x.1 x.2.k x.2.x.A x.2.x.c x.2.x.l _ HP1.out.its hok (HX1.out.mono (fun _ _ _ => trivial)) (by omega) (by omega)).mono ?_
      rintro e w2 ⟨B2, d2, M2, rfl, hM2, hI2, hb2⟩
      rw [hMS] at hM2 ⊢
      have HM2 : Hid (plainL M2 = playS [] (plainL (l.take (i + 1)))) := Lib.hid (by have := plain_step M x.1 x.2; rw [hM2.out, ← hMS]; refine this.trans ?_; rw [HP1.out.same.out, hps.out])
      have HI2 := Lib.hid hI2
      have HT2 := Lib.hid (HP1.out.tree.below hb2)
      have HX2 := Lib.hid ((HX1.out.below hb2).1)
      have xb2 := xb.below hb2
      have hw2 := hw1.trans (hb2.mono hw1.size)
      have hxn : ¬ (wr.heap.size = tb ∨ mo = some wr.heap.size) := by
        rintro (e | e)
        · omega
        · have := hml _ e; omega
      have q0 := xb2.cell 0
      have q1 := xb2.cell 1
      have q2 := xb2.cell 2
      simp only [List.getElem?_toArray, List.getElem?_cons_zero, List.getElem?_cons_succ] at q0 q1 q2
      have HPS : Hid (setS (plainL L) x.1 (x.2.k, x.2.x.l) = playS [] (plainL (l.take (i + 1)))) := Lib.hid (by rw [hps.out, HP1.out.plain.out]; rfl)
      clear hM2 hI2 hb2 HX1 xb hps HP1 hok
      have HMT := Lib.hid hMS
      obtain ⟨ms, hms⟩ : ∃ ms, ms = mayS T x.1 (x.2.k, x.2.x.l) := ⟨_, rfl⟩
      have HMS : Hid (mayS (plainL L) x.1 (x.2.k, x.2.x.l) = ms) := Lib.hid (by rw [HLM.out, hms])
      rw [← hms]
      clear hms hMS HLM HMT
      go_wp2_with fail
      refine (treeSet_any sortsT tb mo L x.1 x.2.k x.2.x.A x.2.x.c x.2.x.l _ w2 HT2.out HX2.out (by omega) (by omega)).mono ?_
      rintro e w3 ⟨rfl, hto⟩
      rw [HMS.out]
      obtain ⟨⟨mo', L', hT3, hL3, hmo3⟩, hfr⟩ := hto
      have HI3 := Lib.hid (HI2.out.set HT2.out hfr)
      have HT3 := Lib.hid hT3
      have hL4 : Hid (plainL L' = playS [] (plainL (l.take (i + 1)))) := Lib.hid (hL3.out.trans HPS.out)
      have hw3 : Below w.heap.size w w3 := hw2.trans (hfr.below hw2.size (fun k hk e => by
        rcases e with e | e
        · omega
        · have := hmo _ e; omega))
      have hmo4 : ∀ m, mo' = some m → w.heap.size ≤ m := fun m e => by
        rcases hmo3 m e with e | e
        · exact hmo m e
        · have := hw2.size; omega
      clear hT3 hfr hL3 HI2 HT2 HX2 xb2 hmo3 q0 q1 q2 HPS HMS
      go_wp2_with fail
      go_roundw
      case rel => exact ⟨i + 1, mo', L', B2, d2, M2, hlt, by go_num, rfl, ⟨HT3.out, hL4, HI3.out, HM2⟩, hmo4, hw3⟩
      case measure => simp [intOf]; omega
    · have e : i = l.length := by omega
      subst e
      rw [List.take_length] at hP
      go_wp2_with fail
      go_ret3
      exact ⟨tb, mo, L, B, d, M, rfl, hP, htw, hmo, hb⟩

end Go.Proofs.YtkeledbgmpienaaGreat

/- tenderref26.Clash; fence.clash, Clash. -/
namespace Go.Proofs.YtkeledbgmpienaaGreat
open Go.RowKit Go.WideShapes Go.ChangeShapes Go.ChangeAt

end Go.Proofs.YtkeledbgmpienaaGreat

/- fence.Clash, Sound. -/
namespace Go.Proofs.YtkeledbgmpienaaGreat
open Go.RowKit Go.WideShapes Go.ChangeShapes Go.ChangeAt

end Go.Proofs.YtkeledbgmpienaaGreat

/- fence.Close. -/
namespace Go.Proofs.YtkeledbgmpienaaGreat
open Go.RowKit Go.WideShapes Go.ChangeShapes Go.ChangeAt

section
variable {P : Program} {a : Act} {w : World} {Q : Exit → Act → World → Prop}
/-- A scope in which the run jumps back to one label: what holds at every jump, with a number that every pass lowers; the way to the label is walked once. -/
theorem Turns.paths {l x : List CV} (h : Turns l x) : x.map CV.p = l.map CV.p := by
  induction h with
  | none => rfl
  | turn _ _ ih => rw [← ih]; simp [CV.conf]
theorem Turns.path {l x : List CV} (h : Turns l x) {i : Nat} {a : CV} (ha : x[i]? = some a) : a.p ∈ l.map CV.p := by
  rw [← h.paths]
  exact List.mem_map_of_mem (List.mem_of_getElem? ha)
end


end Go.Proofs.YtkeledbgmpienaaGreat

/- tenderlaw26: Light, lives. -/
namespace Go.Proofs.YtkeledbgmpienaaGreat
open Go.RowKit Go.WideShapes Go.ChangeShapes Go.ChangeAt

end Go.Proofs.YtkeledbgmpienaaGreat

/- order: Apply. -/
namespace Go.Proofs.YtkeledbgmpienaaGreat
open Go.RowKit Go.WideShapes Go.ChangeShapes Go.ChangeAt Go.Maps

abbrev PT := List (List UInt8 × LP)
def getL (T : PT) (p : List UInt8) : LP := (getR T p).getD (0, [])
def pL (x : CV) : List UInt8 := x.p.data.toList
/-- one change at two trees -/
def stepO (a b : PT) (x : CV) : PT × PT × Int :=
  if x.v = 1 then (a, setS b (pL x) (getL a (pL x)), mayS b (pL x) (getL a (pL x)))
  else if x.v = 2 then (setS a (pL x) (getL b (pL x)), b, mayS a (pL x) (getL b (pL x)))
  else (a, b, 0)
def applyO (a b : PT) : List CV → PT × PT × Int
  | [] => (a, b, 0)
  | x :: l => if (stepO a b x).2.2 = 0 then applyO (stepO a b x).1 (stepO a b x).2.1 l else stepO a b x
theorem applyO_drop (a b : PT) (l : List CV) (i : Nat) (hi : i < l.length) : applyO a b (l.drop i) = if (stepO a b l[i]).2.2 = 0 then applyO (stepO a b l[i]).1 (stepO a b l[i]).2.1 (l.drop (i + 1)) else stepO a b l[i] := by
  rw [List.drop_eq_getElem_cons hi]; rfl
theorem getL_plain (L : List (List UInt8 × LV)) (p : List UInt8) : getL (plainL L) p = (((getR L p).map LV.k).getD 0, ((getR L p).map fun x => x.x.l).getD []) := by
  unfold getL; rw [get_plain]; cases getR L p <;> rfl
theorem TreeAt.getSmall {w : World} {tb : Nat} {mo : Option Nat} {L : List (List UInt8 × LV)} (h : TreeAt w tb mo L) (p : List UInt8) : (getL (plainL L) p).2.length ≤ 4096 := by
  rw [getL_plain]
  rcases hq : getR L p with _ | o
  · simp
  · exact (h.small (getR_mem hq)).1
/-- two trees apart -/
structure Two (w : World) (E ta : Nat) (ma : Option Nat) (La : List (List UInt8 × LV)) (tb : Nat) (mb : Option Nat) (Lb : List (List UInt8 × LV)) : Prop where
  a : TreeAt w ta ma La
  b : TreeAt w tb mb Lb
  la : ∀ g, (g = ta ∨ ma = some g) → E ≤ g
  lb : ∀ g, (g = tb ∨ mb = some g) → E ≤ g
  dis : ∀ g, (g = ta ∨ ma = some g) → ¬ (g = tb ∨ mb = some g)
namespace Two
variable {w w' : World} {E ta tb : Nat} {ma mb : Option Nat} {La Lb : List (List UInt8 × LV)}
theorem swap (h : Two w E ta ma La tb mb Lb) : Two w E tb mb Lb ta ma La := ⟨h.b, h.a, h.lb, h.la, fun g h1 h2 => h.dis g h2 h1⟩
theorem below (h : Two w E ta ma La tb mb Lb) (k : Below w.heap.size w w') : Two w' E ta ma La tb mb Lb := ⟨h.a.below k, h.b.below k, h.la, h.lb, h.dis⟩
theorem set (h : Two w E ta ma La tb mb Lb) (hE : E ≤ w.heap.size) {T : PT} (k : TreeTo w ta ma T w') : ∃ m' L', Two w' E ta m' L' tb mb Lb ∧ Hid (plainL L' = T) ∧ Below E w w' := by
  obtain ⟨⟨m', L', h1, h2, h3⟩, hf⟩ := k
  have hml := h.b.lt
  have htl := h.b.blk.lt
  refine ⟨m', L', ⟨h1, h.b.fr hf (fun e => h.dis _ e (.inl rfl)) (fun m e1 e2 => h.dis _ e2 (.inr e1)) (fun y hy g hg => h.a.ownT (h.b.own y hy) (by decide) g hg), ?_, h.lb, ?_⟩, h2, hf.below hE (fun g hg e => by have := h.la g e; omega)⟩
  · rintro g (e | e)
    · exact h.la g (.inl e)
    · rcases h3 g e with e | e
      · exact h.la g (.inr e)
      · omega
  · rintro g (e | e) e2
    · exact h.dis g (.inl e) e2
    · rcases h3 g e with e | e
      · exact h.dis g (.inr e) e2
      · rcases e2 with e2 | e2
        · omega
        · have := hml g e2; omega
end Two
theorem getO_any (tb : Nat) (mo : Option Nat) (L : List (List UInt8 × LV)) (x : CV) (w : World) (h : TreeAt w tb mo L) (hp : x.p.size ≤ 1048576) :
    Calls Tryz.prog 15 #[.pointer (some ⟨tb, 0, none⟩), .string x.p] w fun e w' => ∃ (A : Option Addr) (c : Nat) (l : List UInt8), e = .returned (.agg #[.int .i64 (getL (plainL L) (pL x)).1, .slice A l.length c]) ∧ Hid (l = (getL (plainL L) (pL x)).2) ∧ OwB w' w.heap.size (.slice A l.length c) l ∧ Below w.heap.size w w' := by
  have hl : (pL x).length ≤ 1048576 := by unfold pL; rw [Array.length_toList]; exact hp
  refine (treeGet_any tb mo L (pL x) w h (by omega)).mono ?_
  rintro e w' ⟨⟨A, c, l, rfl, h1, h2⟩, hb⟩
  refine ⟨A, c, l, by rw [getL_plain], ?_, h2, hb⟩
  show _ = _
  rw [getL_plain]; exact h1.out
theorem setO_any (tb : Nat) (mo : Option Nat) (L : List (List UInt8 × LV)) (x : CV) (k : Int) (A : Option Addr) (c : Nat) (l : List UInt8) (Z : Nat → Prop) (w : World) (h : TreeAt w tb mo L) (hy : By w Z A l) (hp : x.p.size ≤ 1048576) (hn : l.length ≤ 140737488355328) :
    Calls Tryz.prog 19 #[.pointer (some ⟨tb, 0, none⟩), .string x.p, .agg #[.int .i64 k, .slice A l.length c]] w fun e w' => e = .returned (.int .i64 (mayS (plainL L) (pL x) (k, l))) ∧ TreeTo w tb mo (setS (plainL L) (pL x) (k, l)) w' :=
  treeSet_any sortsT tb mo L (pL x) k A c l Z w h hy (by unfold pL; rw [Array.length_toList]; exact hp) hn

set_option maxRecDepth 100000 in
set_option maxHeartbeats 2000000 in
theorem orderApply_any (ta : Nat) (ma : Option Nat) (La : List (List UInt8 × LV)) (tb : Nat) (mb : Option Nat) (Lb : List (List UInt8 × LV)) (A : Option Addr) (c : Nat) (l : List CV) (Z : Nat → Prop) (w : World) (ha : TreeAt w ta ma La) (hb : TreeAt w tb mb Lb) (h : Rd w Z 9 A l.length (l.flatMap CV.cells)) (hp : ∀ x ∈ l, x.p.size ≤ 1048576) (hl : l.length ≤ 1000) :
    Calls Tryz.prog 13 #[.pointer (some ⟨ta, 0, none⟩), .pointer (some ⟨tb, 0, none⟩), .slice A l.length c] w fun e w' => ∃ R, Hid (R = applyO (plainL La) (plainL Lb) l) ∧ Below w.heap.size w w' ∧ ((R.2.2 = 0 ∧ ∃ ca mca Ka cb mcb Kb, e = .returned (.tuple #[.pointer (some ⟨ca, 0, none⟩), .pointer (some ⟨cb, 0, none⟩), .int .i64 0]) ∧ TreeAt w' ca mca Ka ∧ TreeAt w' cb mcb Kb ∧ Hid (plainL Ka = R.1) ∧ Hid (plainL Kb = R.2.1)) ∨ (R.2.2 ≠ 0 ∧ e = .returned (.tuple #[.pointer none, .pointer none, .int .i64 R.2.2]))) := by
  have HRS := Lib.hid h
  have HP := Lib.hid hp
  have HB := Lib.hid hb
  have HA := Lib.hid ha
  obtain ⟨R, hR⟩ : ∃ R, R = applyO (plainL La) (plainL Lb) l := ⟨_, rfl⟩
  have HR := Lib.hid hR
  rw [← hR]
  clear h hp hb ha hR
  go_enter Tryz.func13, Tryz.ntmps13
  go_wp2_with fail
  refine (treeClone_any ta ma La w HA.out).mono ?_
  rintro e w1 ⟨ca, mca, rfl, hca, hmca, hCA, hb1⟩
  have HB1 := Lib.hid (HB.out.below hb1)
  have HCA := Lib.hid hCA
  have htl := hCA.blk.lt
  have hml := hCA.lt
  clear hCA
  go_wp2_with fail
  refine (treeClone_any tb mb Lb w1 HB1.out).mono ?_
  rintro e w2 ⟨cb, mcb, rfl, hcb, hmcb, hCB, hb2⟩
  have hs1 := hb1.size
  have hw2 := hb1.trans (hb2.mono hs1)
  have HTW := Lib.hid (show Two w2 w.heap.size ca mca La cb mcb Lb from ⟨HCA.out.below hb2, hCB, fun g e => by
    rcases e with e | e
    · omega
    · exact hmca g e, fun g e => by
    rcases e with e | e
    · omega
    · have := hmcb g e; omega, fun g e e2 => by
    rcases e with e | e <;> rcases e2 with e2 | e2
    · omega
    · have := hmcb g e2; omega
    · have := hml g e; omega
    · have := hml g e; have := hmcb g e2; omega⟩)
  clear hCB HCA HB1 hb1 hb2 hca hmca hcb hmcb htl hml hs1 HA HB
  go_wp2_with fail
  go_loopw [26] (fun iv wr => ∃ (i : Nat) (ma' : Option Nat) (La' : List (List UInt8 × LV)) (mb' : Option Nat) (Lb' : List (List UInt8 × LV)), i ≤ l.length ∧ iv = .int .i64 (i : Int) ∧ Two wr w.heap.size ca ma' La' cb mb' Lb' ∧ Hid (R = applyO (plainL La') (plainL Lb') (l.drop i)) ∧ Below w.heap.size w wr) (fun iv _ => l.length - (intOf iv).toNat)
  case atStart => exact ⟨0, mca, La, mcb, Lb, Nat.zero_le _, rfl, HTW.out, HR, hw2⟩
  case round =>
    obtain ⟨i, ma', La', mb', Lb', hi, rfl, hT, hRi, hb⟩ := hrel
    by_cases hlt : i < l.length
    · have HRX := Lib.hid (hRi.out.trans (applyO_drop (plainL La') (plainL Lb') l i hlt))
      obtain ⟨b, off, rfl, _, hbb, at1⟩ := ch_at (HRS.out.below hb) hlt
      have hpx := HP.out l[i] (List.getElem_mem hlt)
      obtain ⟨x, hx⟩ : ∃ x, x = l[i] := ⟨_, rfl⟩
      rw [← hx] at at1 HRX hpx
      have hba : Below wr.heap.size wr (wr.alloc (.cells #[.string x.p, .int .i64 x.b, .bool x.m, .bool x.t, .int .i64 x.k, .int .i64 x.o, .int .i64 x.s, .int .i64 x.l, .int .i64 x.v] 47)) := (Below.refl _ _).alloc (Nat.le_refl _) _
      have bc : Blk (wr.alloc (.cells #[.string x.p, .int .i64 x.b, .bool x.m, .bool x.t, .int .i64 x.k, .int .i64 x.o, .int .i64 x.s, .int .i64 x.l, .int .i64 x.v] 47)) wr.heap.size 47 x.cells.toArray := Blk.new wr _ _
      have hr3 := hb.trans (hba.mono hb.size)
      have hna : ¬ (wr.heap.size = ca ∨ ma' = some wr.heap.size) := by
        have h1 := hT.a.blk.lt
        have h2 := hT.a.lt
        rintro (e | e)
        · omega
        · have := h2 _ e; omega
      have hnb : ¬ (wr.heap.size = cb ∨ mb' = some wr.heap.size) := by
        have h1 := hT.b.blk.lt
        have h2 := hT.b.lt
        rintro (e | e)
        · omega
        · have := h2 _ e; omega
      replace hT := hT.below hba
      obtain ⟨a0, a1, a2, a3, a4, a5, a6, a7, a8⟩ := at1
      clear hx hRi HTW hw2 hb
      go_upto_region 7 with (fail)
      obtain ⟨zb, hzb⟩ : ∃ zb, zb = wr.heap.size := ⟨_, rfl⟩
      rw [← hzb] at bc hna hnb ⊢
      clear hzb hba a0 a1 a2 a3 a4 a5 a6 a7 a8
      generalize wr.alloc (.cells #[.string x.p, .int .i64 x.b, .bool x.m, .bool x.t, .int .i64 x.k, .int .i64 x.o, .int .i64 x.s, .int .i64 x.l, .int .i64 x.v] 47) = w3 at *
      obtain ⟨q0, q1, q2, q3, q4, q5, q6, q7, q8⟩ := cells9 bc
      obtain ⟨v, hv⟩ : ∃ v, v = x.v := ⟨_, rfl⟩
      by_cases hv1 : v = 1
      · subst hv1
        have HST : Hid (stepO (plainL La') (plainL Lb') x = (plainL La', setS (plainL Lb') (pL x) (getL (plainL La') (pL x)), mayS (plainL Lb') (pL x) (getL (plainL La') (pL x)))) := Lib.hid (by unfold stepO; rw [if_pos hv.symm])
        rw [← hv] at q8
        clear hv
        have hsm := hT.a.getSmall (pL x)
        have HT0 := Lib.hid hT
        have HG := Lib.hid (fun W (hW : Below w3.heap.size w3 W) => getO_any ca ma' La' x W (hT.a.below hW) hpx)
        have n1 := hnb
        clear hT hna hnb
        go_wp2_with fail
        refine wp_region_p [(0, true), (1, true), (2, true), (3, true), (4, true), (5, true), (6, false), (7, false), (8, true)] (fun W => Fr (fun g => g = cb ∨ mb' = some g) w3 W) (by kernel_rfl) (by kernel_rfl) ?_
        simp only [List.map_cons, List.map_nil, List.filterMap_cons, List.filterMap_nil, List.getElem?_cons_zero, List.getElem?_cons_succ, List.length_cons, List.length_nil, Nat.zero_add, Nat.reduceAdd, List.drop_succ_cons, List.drop_zero]
        refine mx_move _ (by kernel_rfl) rfl ⟨_, (by ((try simp [go_sem]); (try rfl); done)), _, (by (simp only [Act.put, List.setIfInBounds_toArray, List.set_cons_zero, List.set_cons_succ]; rfl)), ?_⟩
        refine mx_val (by kernel_rfl) ⟨_, (by (intro w' hC; clear hC; (try go_simp); (try with_reducible rfl); done)), _, (by (simp only [Act.put, List.setIfInBounds_toArray, List.set_cons_zero, List.set_cons_succ]; rfl)), ?_⟩
        refine mx_val (by kernel_rfl) ⟨_, (by (intro w' hC; (obtain ⟨q0, q1, q2, q3, q4, q5, q6, q7, q8⟩ := cells9 (bc.fr hC n1)); clear hC; (try go_simp); (try with_reducible rfl); done)), _, (by (simp only [Act.put, List.setIfInBounds_toArray, List.set_cons_zero, List.set_cons_succ]; rfl)), ?_⟩
        refine mx_move _ (by kernel_rfl) rfl ⟨_, (by ((try simp [go_sem]); (try rfl); done)), _, (by (simp only [Act.put, List.setIfInBounds_toArray, List.set_cons_zero, List.set_cons_succ]; rfl)), ?_⟩
        refine mx_val (by kernel_rfl) ⟨_, (by (intro w' hC; clear hC; (try go_simp); (try with_reducible rfl); done)), _, (by (simp only [Act.put, List.setIfInBounds_toArray, List.set_cons_zero, List.set_cons_succ]; rfl)), ?_⟩
        refine mx_val (by kernel_rfl) ⟨_, (by (intro w' hC; (obtain ⟨q0, q1, q2, q3, q4, q5, q6, q7, q8⟩ := cells9 (bc.fr hC n1)); clear hC; (try go_simp); (try with_reducible rfl); done)), _, (by (simp only [Act.put, List.setIfInBounds_toArray, List.set_cons_zero, List.set_cons_succ]; rfl)), ?_⟩
        refine mx_call ((Fr.refl _ _).drew) (by kernel_rfl) ?_ (HG.out _ (Below.refl _ _).drew) ?_
        · (go_simp; done)
        rintro e w4 ⟨A4, c4, l4, rfl, hl4, ho4, hb4⟩
        have hb4' : Below w3.heap.size w3 w4 := (Below.refl _ _).drew.trans (hb4.mono (Below.refl w3.heap.size w3).drew.size)
        have hca : Fr (fun g => g = cb ∨ mb' = some g) w3 w4 := (Fr.refl (fun g => g = cb ∨ mb' = some g) w3).then_below hb4'
        have hr4 := hr3.trans (hb4'.mono hr3.size)
        have HT4 := HT0.out.below hb4'
        have hby : By w4 (fun _ => True) A4 l4 := Rd.of_own ho4 (fun _ _ _ => trivial)
        have hsl : l4.length ≤ 4096 := by rw [hl4.out]; exact hsm
        have HL4 := Lib.hid (show getL (plainL La') (pL x) = ((getL (plainL La') (pL x)).1, l4) by rw [hl4.out])
        clear ho4 hb4 hl4 hsm
        refine ⟨_, rfl, _, (by (simp only [Act.put, List.setIfInBounds_toArray, List.set_cons_zero, List.set_cons_succ]; rfl)), ?_⟩
        refine mx_call (hca) (by kernel_rfl) ?_ (setO_any cb mb' Lb' x (getL (plainL La') (pL x)).1 A4 c4 l4 (fun _ => True) w4 HT4.b hby hpx (by omega)) ?_
        · (go_simp; done)
        rintro e w5 ⟨rfl, hto⟩
        have hcb : Fr (fun g => g = cb ∨ mb' = some g) w3 w5 := hca.trans hto.fr (fun _ _ h => h)
        obtain ⟨m', L', hT5, hL5, _⟩ := HT4.swap.set hr4.size hto
        have HL5 : Hid (plainL L' = setS (plainL Lb') (pL x) (getL (plainL La') (pL x))) := Lib.hid (by rw [HL4.out]; exact hL5.out)
        clear hto hL5 HT4 hby hsl
        refine ⟨_, rfl, _, (by (simp only [Act.put, List.setIfInBounds_toArray, List.set_cons_zero, List.set_cons_succ]; rfl)), ?_⟩
        refine mx_assign _ (by kernel_rfl) rfl ⟨_, (by ((try simp [go_sem]); (try rfl); done)), _, (by (simp only [Act.put, List.setIfInBounds_toArray, List.set_cons_zero, List.set_cons_succ]; rfl)), ?_⟩
        refine mx_end hcb ?_
        have hw5 := hr3.trans ((hcb.below (B := w.heap.size) hr3.size (fun g hg e => by have := HT0.out.lb g e; omega)))
        obtain ⟨f, hf⟩ : ∃ f, f = mayS (plainL Lb') (pL x) ((getL (plainL La') (pL x)).1, l4) := ⟨_, rfl⟩
        rw [← hf]
        have HF : Hid (f = mayS (plainL Lb') (pL x) (getL (plainL La') (pL x))) := Lib.hid (by rw [← HL4.out] at hf; exact hf)
        clear hf hca hcb HL4 bc n1 q0 q1 q2 q3 q4 q5 q6 q7 q8
        by_cases hf0 : f = 0
        · subst hf0
          go_wp2_with fail
          go_roundw
          case rel => exact ⟨i + 1, ma', La', m', L', hlt, by go_num, hT5.swap, Lib.hid (by rw [HRX.out, HST.out, if_pos HF.out.symm, HL5.out]), hw5⟩
          case measure => simp [intOf]; omega
        · have hfb : (f != 0) = true := by simpa using hf0
          have HFN := Lib.hid hf0
          clear hf0
          go_wp2_with fail
          go_ret3
          have hRf : R = (stepO (plainL La') (plainL Lb') x) := by rw [HRX.out, HST.out, if_neg (by rw [← HF.out]; exact HFN.out)]
          have hR2 : R.2.2 = f := by rw [hRf, HST.out, HF.out]
          exact ⟨R, Lib.hid rfl, hw5, .inr ⟨by rw [hR2]; exact HFN.out, by rw [hR2]; rfl⟩⟩
      · by_cases hv2 : v = 2
        · subst hv2
          have HST : Hid (stepO (plainL La') (plainL Lb') x = (setS (plainL La') (pL x) (getL (plainL Lb') (pL x)), plainL Lb', mayS (plainL La') (pL x) (getL (plainL Lb') (pL x)))) := Lib.hid (by unfold stepO; rw [if_neg (by rw [← hv]; decide), if_pos hv.symm])
          rw [← hv] at q8
          clear hv
          have hsm := hT.b.getSmall (pL x)
          have HT0 := Lib.hid hT
          have HG := Lib.hid (fun W (hW : Below w3.heap.size w3 W) => getO_any cb mb' Lb' x W (hT.b.below hW) hpx)
          have n1 := hna
          clear hT hna hnb
          go_wp2_with fail
          refine wp_region_p [(0, true), (1, true), (2, true), (3, true), (4, true), (5, true), (6, false), (7, false), (8, true)] (fun W => Fr (fun g => g = ca ∨ ma' = some g) w3 W) (by kernel_rfl) (by kernel_rfl) ?_
          simp only [List.map_cons, List.map_nil, List.filterMap_cons, List.filterMap_nil, List.getElem?_cons_zero, List.getElem?_cons_succ, List.length_cons, List.length_nil, Nat.zero_add, Nat.reduceAdd, List.drop_succ_cons, List.drop_zero]
          refine mx_move _ (by kernel_rfl) rfl ⟨_, (by ((try simp [go_sem]); (try rfl); done)), _, (by (simp only [Act.put, List.setIfInBounds_toArray, List.set_cons_zero, List.set_cons_succ]; rfl)), ?_⟩
          refine mx_val (by kernel_rfl) ⟨_, (by (intro w' hC; clear hC; (try go_simp); (try with_reducible rfl); done)), _, (by (simp only [Act.put, List.setIfInBounds_toArray, List.set_cons_zero, List.set_cons_succ]; rfl)), ?_⟩
          refine mx_val (by kernel_rfl) ⟨_, (by (intro w' hC; (obtain ⟨q0, q1, q2, q3, q4, q5, q6, q7, q8⟩ := cells9 (bc.fr hC n1)); clear hC; (try go_simp); (try with_reducible rfl); done)), _, (by (simp only [Act.put, List.setIfInBounds_toArray, List.set_cons_zero, List.set_cons_succ]; rfl)), ?_⟩
          refine mx_move _ (by kernel_rfl) rfl ⟨_, (by ((try simp [go_sem]); (try rfl); done)), _, (by (simp only [Act.put, List.setIfInBounds_toArray, List.set_cons_zero, List.set_cons_succ]; rfl)), ?_⟩
          refine mx_val (by kernel_rfl) ⟨_, (by (intro w' hC; clear hC; (try go_simp); (try with_reducible rfl); done)), _, (by (simp only [Act.put, List.setIfInBounds_toArray, List.set_cons_zero, List.set_cons_succ]; rfl)), ?_⟩
          refine mx_val (by kernel_rfl) ⟨_, (by (intro w' hC; (obtain ⟨q0, q1, q2, q3, q4, q5, q6, q7, q8⟩ := cells9 (bc.fr hC n1)); clear hC; (try go_simp); (try with_reducible rfl); done)), _, (by (simp only [Act.put, List.setIfInBounds_toArray, List.set_cons_zero, List.set_cons_succ]; rfl)), ?_⟩
          refine mx_call ((Fr.refl _ _).drew) (by kernel_rfl) ?_ (HG.out _ (Below.refl _ _).drew) ?_
          · (go_simp; done)
          rintro e w4 ⟨A4, c4, l4, rfl, hl4, ho4, hb4⟩
          have hb4' : Below w3.heap.size w3 w4 := (Below.refl _ _).drew.trans (hb4.mono (Below.refl w3.heap.size w3).drew.size)
          have hca : Fr (fun g => g = ca ∨ ma' = some g) w3 w4 := (Fr.refl (fun g => g = ca ∨ ma' = some g) w3).then_below hb4'
          have hr4 := hr3.trans (hb4'.mono hr3.size)
          have HT4 := HT0.out.below hb4'
          have hby : By w4 (fun _ => True) A4 l4 := Rd.of_own ho4 (fun _ _ _ => trivial)
          have hsl : l4.length ≤ 4096 := by rw [hl4.out]; exact hsm
          have HL4 := Lib.hid (show getL (plainL Lb') (pL x) = ((getL (plainL Lb') (pL x)).1, l4) by rw [hl4.out])
          clear ho4 hb4 hl4 hsm
          refine ⟨_, rfl, _, (by (simp only [Act.put, List.setIfInBounds_toArray, List.set_cons_zero, List.set_cons_succ]; rfl)), ?_⟩
          refine mx_call (hca) (by kernel_rfl) ?_ (setO_any ca ma' La' x (getL (plainL Lb') (pL x)).1 A4 c4 l4 (fun _ => True) w4 HT4.a hby hpx (by omega)) ?_
          · (go_simp; done)
          rintro e w5 ⟨rfl, hto⟩
          have hcb : Fr (fun g => g = ca ∨ ma' = some g) w3 w5 := hca.trans hto.fr (fun _ _ h => h)
          obtain ⟨m', L', hT5, hL5, _⟩ := HT4.set hr4.size hto
          have HL5 : Hid (plainL L' = setS (plainL La') (pL x) (getL (plainL Lb') (pL x))) := Lib.hid (by rw [HL4.out]; exact hL5.out)
          clear hto hL5 HT4 hby hsl
          refine ⟨_, rfl, _, (by (simp only [Act.put, List.setIfInBounds_toArray, List.set_cons_zero, List.set_cons_succ]; rfl)), ?_⟩
          refine mx_assign _ (by kernel_rfl) rfl ⟨_, (by ((try simp [go_sem]); (try rfl); done)), _, (by (simp only [Act.put, List.setIfInBounds_toArray, List.set_cons_zero, List.set_cons_succ]; rfl)), ?_⟩
          refine mx_end hcb ?_
          have hw5 := hr3.trans ((hcb.below (B := w.heap.size) hr3.size (fun g hg e => by have := HT0.out.la g e; omega)))
          obtain ⟨f, hf⟩ : ∃ f, f = mayS (plainL La') (pL x) ((getL (plainL Lb') (pL x)).1, l4) := ⟨_, rfl⟩
          rw [← hf]
          have HF : Hid (f = mayS (plainL La') (pL x) (getL (plainL Lb') (pL x))) := Lib.hid (by rw [← HL4.out] at hf; exact hf)
          clear hf hca hcb HL4 bc n1 q0 q1 q2 q3 q4 q5 q6 q7 q8
          by_cases hf0 : f = 0
          · subst hf0
            go_wp2_with fail
            go_roundw
            case rel => exact ⟨i + 1, m', L', mb', Lb', hlt, by go_num, hT5, Lib.hid (by rw [HRX.out, HST.out, if_pos HF.out.symm, HL5.out]), hw5⟩
            case measure => simp [intOf]; omega
          · have hfb : (f != 0) = true := by simpa using hf0
            have HFN := Lib.hid hf0
            clear hf0
            go_wp2_with fail
            go_ret3
            have hRf : R = (stepO (plainL La') (plainL Lb') x) := by rw [HRX.out, HST.out, if_neg (by rw [← HF.out]; exact HFN.out)]
            have hR2 : R.2.2 = f := by rw [hRf, HST.out, HF.out]
            exact ⟨R, Lib.hid rfl, hw5, .inr ⟨by rw [hR2]; exact HFN.out, by rw [hR2]; rfl⟩⟩
        · have e1 : (v == 1) = false := by simpa using hv1
          have e2 : (v == 2) = false := by simpa using hv2
          have HST : Hid (stepO (plainL La') (plainL Lb') x = (plainL La', plainL Lb', 0)) := Lib.hid (by unfold stepO; rw [if_neg (by rw [← hv]; exact hv1), if_neg (by rw [← hv]; exact hv2)])
          rw [← hv] at q8
          clear hv hv1 hv2
          have HT0 := Lib.hid hT
          clear hT
          go_wp2_with fail
          go_roundw
          case rel => exact ⟨i + 1, ma', La', mb', Lb', hlt, by go_num, HT0.out, Lib.hid (by rw [HRX.out, HST.out]; rfl), hr3⟩
          case measure => simp [intOf]; omega
    · have e : i = l.length := by omega
      subst e
      have HR0 : Hid (R = (plainL La', plainL Lb', 0)) := Lib.hid (by rw [hRi.out, List.drop_length]; rfl)
      have HT0 := Lib.hid hT
      clear hRi hT HTW hw2
      go_wp2_with fail
      go_ret3
      refine ⟨R, Lib.hid rfl, hb, .inl ⟨by rw [HR0.out], ca, ma', La', cb, mb', Lb', rfl, HT0.out.a, HT0.out.b, ?_, ?_⟩⟩
      · show _ = _; rw [HR0.out]
      · show _ = _; rw [HR0.out]

end Go.Proofs.YtkeledbgmpienaaGreat

/- What is closed can be applied: plain. -/
namespace Go.Proofs.YtkeledbgmpienaaGreat
open Go.RowKit Go.Maps

theorem under_par {q p : List UInt8} (h : underB q p = true) : (parT q).2 = true ∧ ((parT q).1 = p ∨ underB (parT q).1 p = true) := by
  unfold underB at h
  simp only [Bool.and_eq_true] at h
  obtain ⟨⟨hq, hp⟩, hpre⟩ := h
  obtain ⟨T, hT, e⟩ := (preB_iff q p).1 hpre
  have hl : 1 < (cutL q).length := by
    rw [e, List.length_append]
    have h1 : 0 < (cutL p).length := List.length_pos_iff.2 (cutL_ne p)
    have h2 : 0 < T.length := List.length_pos_iff.2 hT
    omega
  have hpar : parT q = (pasteL (cutL q).dropLast, true) := by
    unfold parT
    rw [if_pos (by simp [hq, hl])]
  rw [hpar]
  refine ⟨rfl, ?_⟩
  have hdl : (cutL q).dropLast = cutL p ++ T.dropLast := by rw [e, List.dropLast_append_of_ne_nil hT]
  by_cases hT1 : T.dropLast = []
  · refine .inl ?_
    show pasteL _ = _
    rw [hdl, hT1, List.append_nil, paste_cut]
  · refine .inr ?_
    show underB (pasteL _) p = true
    have hne : (cutL q).dropLast ≠ [] := by rw [hdl]; simp [hT1]
    have hcp : cutL (pasteL (cutL q).dropLast) = (cutL q).dropLast := cut_paste _ hne (fun y hy => cut_no q y ((List.dropLast_sublist _).subset hy))
    have hpar2 : (parT q).2 = true := by rw [hpar]
    have hu := par_under hpar2
    rw [hpar] at hu
    unfold underB at hu ⊢
    simp only [Bool.and_eq_true] at hu ⊢
    exact ⟨⟨hu.1.2, hp⟩, (preB_iff _ _).2 ⟨T.dropLast, hT1, by rw [hcp, hdl]⟩⟩
theorem cut_par {q : List UInt8} (h : (parT q).2 = true) : (cutL (parT q).1).length < (cutL q).length := by
  have hu := par_under h
  unfold underB at hu
  simp only [Bool.and_eq_true] at hu
  obtain ⟨T, hT, e⟩ := (preB_iff _ _).1 hu.2
  rw [e, List.length_append]
  have := List.length_pos_iff.2 hT
  omega
theorem kindL_getL (T : PT) (p : List UInt8) : kindL (getR T p) = (getL T p).1 := by
  unfold kindL getL; cases getR T p <;> rfl
theorem getL_none {T : PT} {p : List UInt8} (h : getR T p = none) : getL T p = (0, []) := by unfold getL; rw [h]; rfl
theorem TreeOk.kind_pos {T : PT} (h : TreeOk T) {p : List UInt8} {l : LP} (hg : getR T p = some l) : l.1 ≠ 0 := by
  rcases (h.good _ (getR_mem hg)).2.1 with e | e
  · show l.1 ≠ 0
    intro e2
    rw [show l.1 = 1 from e] at e2; cases e2
  · intro e2
    rw [show l.1 = 2 from e] at e2; cases e2
theorem TreeOk.zero {T : PT} (h : TreeOk T) {p : List UInt8} (hk : (getL T p).1 = 0) : getR T p = none ∧ getL T p = (0, []) := by
  rcases hg : getR T p with _ | l
  · exact ⟨rfl, getL_none hg⟩
  · unfold getL at hk
    rw [hg] at hk
    exact absurd hk (h.kind_pos hg)
theorem TreeOk.checkL {T : PT} (h : TreeOk T) (p : List UInt8) : checkN (getL T p).1 (getL T p).2.length = 0 := by
  rcases hg : getR T p with _ | l
  · rw [getL_none hg]; rfl
  · unfold getL
    rw [hg]
    exact (h.good _ (getR_mem hg)).2.2
theorem getL_mem {T : PT} {p : List UInt8} (h : (getL T p).1 ≠ 0) : p ∈ keysR T := by
  rw [← getR_isSome]
  rcases hg : getR T p with _ | l
  · rw [getL_none hg] at h; exact absurd rfl h
  · rfl
theorem mem_getL {T : PT} (h : TreeOk T) {p : List UInt8} (hp : p ∈ keysR T) : (getL T p).1 ≠ 0 := by
  rw [← getR_isSome] at hp
  rcases hg : getR T p with _ | l
  · rw [hg] at hp; cases hp
  · unfold getL; rw [hg]; exact h.kind_pos hg
/-- all above what stands are Dirs -/
theorem DirsOk.above {T : PT} (h : DirsOk T) (hok : TreeOk T) : ∀ (n : Nat) (q p : List UInt8), (cutL q).length ≤ n → (getL T q).1 ≠ 0 → underB q p = true → (getL T p).1 = 2
  | 0, q, p, hn, _, _ => by
    have := List.length_pos_iff.2 (cutL_ne q)
    omega
  | n + 1, q, p, hn, hq, hu => by
    obtain ⟨h1, h2⟩ := under_par hu
    have hm := getL_mem hq
    unfold keysR at hm
    obtain ⟨x, hx, rfl⟩ := List.mem_map.1 hm
    have hd := h x hx h1
    rw [kindL_getL] at hd
    rcases h2 with e | e
    · rw [← e]; exact hd
    · exact h.above hok n _ _ (by have := cut_par h1; omega) (by rw [hd]; decide) e
/-- what Set says where all stands as it should -/
theorem may_move {s t b : PT} {Done : List UInt8 → Prop} [DecidablePred Done] (hs : TreeOk s) (hds : DirsOk s) (hbok : TreeOk b) (hb : ∀ q, getL b q = if Done q then getL s q else getL t q) {p : List UInt8} (hgood : goodB p = true)
    (hlow : ∀ q, underB q p = true → (getL s q).1 = 0 → (getL t q).1 ≠ 0 → (getL s p).1 ≠ 2 → Done q)
    (hup : (parT p).2 = true → (getL s p).1 ≠ 0 → (getL s (parT p).1).1 = 2 → (getL t (parT p).1).1 ≠ 2 → Done (parT p).1) : mayS b p (getL s p) = 0 ∨ mayS b p (getL s p) = 24 := by
  unfold mayS
  rw [if_neg (by rw [hgood]; decide), if_neg (by rw [hs.checkL]; simp)]
  by_cases hk : (getL s p).1 = 2
  · have e1 : ¬ ((getL s p).1 ≠ 2 ∧ ((keysR b).filter fun q => underB q p) ≠ []) := fun h => h.1 hk
    rw [if_neg e1, if_neg (by rw [hk]; decide)]
    by_cases h2 : (parT p).2 = true ∧ kindL (getR b (parT p).1) ≠ 2
    · exfalso
      obtain ⟨h3, h4⟩ := h2
      rw [kindL_getL] at h4
      have h5 : (getL s (parT p).1).1 = 2 := hds.above hs _ p _ (Nat.le_refl _) (by rw [hk]; decide) (par_under h3)
      rw [hb] at h4
      by_cases hd : Done (parT p).1
      · rw [if_pos hd] at h4; exact h4 h5
      · rw [if_neg hd] at h4
        exact hd (hup h3 (by rw [hk]; decide) h5 h4)
    · rw [if_neg h2]
      split
      · exact .inr rfl
      · exact .inl rfl
  · have e1 : ¬ ((getL s p).1 ≠ 2 ∧ ((keysR b).filter fun q => underB q p) ≠ []) := by
      rintro ⟨_, h2⟩
      obtain ⟨q, hq⟩ := List.exists_mem_of_ne_nil _ h2
      obtain ⟨hq1, hq2⟩ := List.mem_filter.1 hq
      have hbq := mem_getL hbok hq1
      have hsq : (getL s q).1 = 0 := by
        rcases Classical.em ((getL s q).1 = 0) with e | e
        · exact e
        · exact absurd (hds.above hs _ q p (Nat.le_refl _) e hq2) hk
      rw [hb] at hbq
      by_cases hd : Done q
      · rw [if_pos hd] at hbq; exact hbq hsq
      · rw [if_neg hd] at hbq
        exact hd (hlow q hq2 hsq hbq hk)
    rw [if_neg e1]
    by_cases h0 : (getL s p).1 = 0
    · rw [if_pos h0]; exact .inl rfl
    · rw [if_neg h0]
      by_cases h2 : (parT p).2 = true ∧ kindL (getR b (parT p).1) ≠ 2
      · exfalso
        obtain ⟨h3, h4⟩ := h2
        rw [kindL_getL] at h4
        have h5 : (getL s (parT p).1).1 = 2 := hds.above hs _ p _ (Nat.le_refl _) h0 (par_under h3)
        rw [hb] at h4
        by_cases hd : Done (parT p).1
        · rw [if_pos hd] at h4; exact h4 h5
        · rw [if_neg hd] at h4
          exact hd (hup h3 h0 h5 h4)
      · rw [if_neg h2]
        split
        · exact .inr rfl
        · exact .inl rfl
theorem getL_set {b s : PT} {p : List UInt8} (hs : TreeOk s) (hm : mayS b p (getL s p) = 0) (q : List UInt8) : getL (setS b p (getL s p)) q = if q = p then getL s p else getL b q := by
  unfold setS doS
  rw [if_pos hm]
  by_cases h0 : (getL s p).1 = 0
  · rw [if_pos h0]
    show ((getR (withoutR b p) q).getD (0, [])) = _
    rw [getR_without]
    by_cases e : q = p
    · rw [if_pos e, if_pos e, (hs.zero h0).2]; rfl
    · rw [if_neg e, if_neg e]; rfl
  · rw [if_neg h0]
    show ((getR (putR b p (getL s p)) q).getD (0, [])) = _
    rw [getR_put]
    by_cases e : q = p
    · rw [if_pos e, if_pos e]; rfl
    · rw [if_neg e, if_neg e]; rfl
/-- changes that are closed, of two trees -/
structure WorksL (v w : PT) (L : List CV) : Prop where
  nodup : (L.map pL).Nodup
  kind : ∀ x ∈ L, x.k = (getL v (pL x)).1 ∧ x.o = (getL w (pL x)).1
  verd : ∀ x ∈ L, x.v = 1 ∨ x.v = 2 ∨ x.v = 3 ∨ x.v = 5
  same : ∀ x ∈ L, x.v = 3 → getL v (pL x) = getL w (pL x)
  all : ∀ p, getL v p ≠ getL w p → ∃ x ∈ L, pL x = p ∧ x.v ≠ 3
  closed : Closed L
  good : ∀ x ∈ L, goodB (pL x) = true
/-- what comes first in a plan -/
def PB (u z : CV) : Prop := (remB u = true ∧ remB z = false) ∨ (remB u = true ∧ remB z = true ∧ ltC z u = true) ∨ (remB u = false ∧ remB z = false ∧ ltC u z = true)
theorem WorksL.inj {v w : PT} {L : List CV} (h : WorksL v w L) {x y : CV} (hx : x ∈ L) (hy : y ∈ L) (e : pL x = pL y) : x = y := by
  have : ∀ (L : List CV), (L.map pL).Nodup → x ∈ L → y ∈ L → x = y := by
    intro L
    induction L with
    | nil => intro _ hx; cases hx
    | cons z L ih =>
      intro hn hx hy
      rw [List.map_cons, List.nodup_cons] at hn
      rcases List.mem_cons.1 hx with e1 | hx1
      · rcases List.mem_cons.1 hy with e2 | hy1
        · rw [e1, e2]
        · exact absurd (List.mem_map.2 ⟨y, hy1, by rw [← e, e1]⟩) hn.1
      · rcases List.mem_cons.1 hy with e2 | hy1
        · exact absurd (List.mem_map.2 ⟨x, hx1, by rw [e, e2]⟩) hn.1
        · exact ih hn.2 hx1 hy1
  exact this L h.nodup hx hy
theorem ltC_under {q p : CV} (h : underB (pL q) (pL p) = true) : ltC p q = true := by
  have := (under_order (b := pL p) h).1
  unfold ltC
  rw [decide_eq_true_eq]
  show cmpT (pL p) (pL q) < 0
  omega
theorem plan_mem {L : List CV} {x : CV} (h : x ∈ planS L) : x ∈ L := by
  unfold planS at h
  rcases List.mem_append.1 h with h | h
  · exact sortC_mem.1 (List.mem_filter.1 (List.mem_reverse.1 h)).1
  · exact sortC_mem.1 (List.mem_filter.1 h).1
theorem mem_plan {L : List CV} {x : CV} (h : x ∈ L) (hk : remB x = true ∨ restB x = true) : x ∈ planS L := by
  unfold planS
  rw [List.mem_append, List.mem_reverse, List.mem_filter, List.mem_filter, sortC_mem]
  rcases hr : remB x with _ | _
  · refine .inr ⟨h, ?_⟩
    unfold keepB
    rw [hr]
    rcases hk with hk | hk
    · rw [hr] at hk; cases hk
    · rw [hk]; rfl
  · exact .inl ⟨h, rfl⟩
theorem moves_rest {x : CV} (h : movesB x.v = true) : restB x = true := by unfold restB; rw [h]; rfl
theorem sortC_perm {α : Type} {lt : α → α → Bool} (l : List α) : (sortC lt l).Perm l := by
  unfold sortC
  have hi : ∀ (x : α) (P : List α), (insC lt x P).Perm (x :: P) := by
    intro x P
    induction P with
    | nil => exact List.Perm.refl _
    | cons y P ih =>
      unfold insC
      split
      · exact List.Perm.refl _
      · exact (ih.cons y).trans (List.Perm.swap x y P)
  have : ∀ (l P : List α), (l.foldl (fun P x => insC lt x P) P).Perm (P ++ l) := by
    intro l
    induction l with
    | nil => intro P; rw [List.append_nil]; exact List.Perm.refl _
    | cons x l ih =>
      intro P
      rw [List.foldl_cons]
      refine (ih _).trans (((hi x P).append_right l).trans ?_)
      exact List.perm_middle.symm
  simpa using this l []
theorem plan_pair {v w : PT} {L : List CV} (h : WorksL v w L) : (planS L).Pairwise PB := by
  have hnd : ((sortC ltC L).map pL).Nodup := ((sortC_perm (lt := ltC) L).map pL).nodup_iff.2 h.nodup
  have hs : (sortC ltC L).Pairwise fun a b => ltC a b = true := by
    have h1 := sortC_sorted ordC L
    have h2 : (sortC ltC L).Pairwise fun a b => pL a ≠ pL b := List.pairwise_map.1 hnd
    refine (h1.and h2).imp ?_
    rintro a b ⟨h3, h4⟩
    unfold ltC at h3 ⊢
    rw [decide_eq_false_iff_not] at h3
    rw [decide_eq_true_eq]
    have h5 : cmpT (tl a.p) (tl b.p) ≠ 0 := fun e => h4 ((cmpT_eq _ _).1 e)
    have h6 := ordT.flip (tl a.p) (tl b.p)
    omega
  unfold planS
  refine List.pairwise_append.2 ⟨?_, ?_, ?_⟩
  · rw [List.pairwise_reverse]
    refine List.Pairwise.imp_of_mem ?_ (hs.filter _)
    intro a b ha hb hlt
    exact .inr (.inl ⟨(List.mem_filter.1 hb).2, (List.mem_filter.1 ha).2, hlt⟩)
  · refine List.Pairwise.imp_of_mem ?_ (hs.filter _)
    intro a b ha hb hlt
    have e1 := (List.mem_filter.1 ha).2
    have e2 := (List.mem_filter.1 hb).2
    unfold keepB at e1 e2
    simp only [Bool.and_eq_true, Bool.not_eq_eq_eq_not, Bool.not_true] at e1 e2
    exact .inr (.inr ⟨e1.1, e2.1, hlt⟩)
  · intro a ha b hb
    have e2 := (List.mem_filter.1 hb).2
    unfold keepB at e2
    simp only [Bool.and_eq_true, Bool.not_eq_eq_eq_not, Bool.not_true] at e2
    exact .inl ⟨(List.mem_filter.1 (List.mem_reverse.1 ha)).2, e2.1⟩
/-- what is to come first came first -/
theorem plan_done {v w : PT} {L D R : List CV} {x y : CV} (h : WorksL v w L) (hp : planS L = D ++ x :: R) (hy : y ∈ L) (hk : remB y = true ∨ restB y = true) (hne : y ≠ x) (hn : ¬ PB x y) : y ∈ D := by
  have h1 := mem_plan hy hk
  rw [hp] at h1
  rcases List.mem_append.1 h1 with h1 | h1
  · exact h1
  · rcases List.mem_cons.1 h1 with h1 | h1
    · exact absurd h1 hne
    · have h2 := plan_pair h
      rw [hp] at h2
      have h3 := (List.pairwise_append.1 h2).2.1
      exact absurd ((List.pairwise_cons.1 h3).1 y h1) hn
theorem PB.not_low {x y : CV} (hy : remB y = true) (hl : ltC x y = true) : ¬ PB x y := by
  rintro (⟨_, h⟩ | ⟨_, _, h⟩ | ⟨_, h, _⟩)
  · rw [hy] at h; cases h
  · have := ordC.tr _ _ _ hl h
    rw [ordC.irr] at this; cases this
  · rw [hy] at h; cases h
theorem PB.not_up {x y : CV} (hx : remB x = false) (hl : ltC y x = true) : ¬ PB x y := by
  rintro (⟨h, _⟩ | ⟨h, _⟩ | ⟨_, _, h⟩)
  · rw [hx] at h; cases h
  · rw [hx] at h; cases h
  · have := ordC.tr _ _ _ hl h
    rw [ordC.irr] at this; cases this
/-- one way: from s to t -/
structure Way (s t : PT) (c c' : Int) (L : List CV) : Prop where
  cc : (c = 1 ∧ c' = 2) ∨ (c = 2 ∧ c' = 1)
  res1 : ∀ x ∈ L, x.v = c → x.res = (getL s (pL x)).1
  res2 : ∀ x ∈ L, x.v = c' → x.res = (getL t (pL x)).1
  all : ∀ p, getL s p ≠ getL t p → ∃ x ∈ L, pL x = p ∧ (x.v = c ∨ x.v = c' ∨ x.v = 5)
theorem WorksL.way1 {v w : PT} {L : List CV} (h : WorksL v w L) : Way v w 1 2 L :=
  ⟨.inl ⟨rfl, rfl⟩, fun x hx e => by unfold CV.res resK; rw [e]; exact (h.kind x hx).1, fun x hx e => by unfold CV.res resK; rw [e]; exact (h.kind x hx).2, fun p hp => by
    obtain ⟨x, hx, e, h3⟩ := h.all p hp
    refine ⟨x, hx, e, ?_⟩
    rcases h.verd x hx with h1 | h1 | h1 | h1
    · exact .inl h1
    · exact .inr (.inl h1)
    · exact absurd h1 h3
    · exact .inr (.inr h1)⟩
theorem WorksL.way2 {v w : PT} {L : List CV} (h : WorksL v w L) : Way w v 2 1 L :=
  ⟨.inr ⟨rfl, rfl⟩, fun x hx e => by unfold CV.res resK; rw [e]; exact (h.kind x hx).2, fun x hx e => by unfold CV.res resK; rw [e]; exact (h.kind x hx).1, fun p hp => by
    obtain ⟨x, hx, e, h3⟩ := h.all p (fun e => hp e.symm)
    refine ⟨x, hx, e, ?_⟩
    rcases h.verd x hx with h1 | h1 | h1 | h1
    · exact .inr (.inl h1)
    · exact .inl h1
    · exact absurd h1 h3
    · exact .inr (.inr h1)⟩
theorem way_moves {c c' : Int} (h : (c = 1 ∧ c' = 2) ∨ (c = 2 ∧ c' = 1)) : movesB c = true ∧ movesB c' = true := by
  rcases h with ⟨rfl, rfl⟩ | ⟨rfl, rfl⟩ <;> exact ⟨rfl, rfl⟩
theorem Way.may {v w s t b : PT} {c c' : Int} {L D R : List CV} {x : CV} (h : WorksL v w L) (k : Way s t c c' L) (hs : TreeOk s) (hds : DirsOk s) (hbok : TreeOk b) (hp : planS L = D ++ x :: R) (hx : x.v = c)
    (hb : ∀ q, getL b q = if (∃ y ∈ D, y.v = c ∧ pL y = q) then getL s q else getL t q) : mayS b (pL x) (getL s (pL x)) = 0 ∨ mayS b (pL x) (getL s (pL x)) = 24 := by
  have hxL : x ∈ L := plan_mem (by rw [hp]; simp)
  obtain ⟨m1, m2⟩ := way_moves k.cc
  have hmx : movesB x.v = true := by rw [hx]; exact m1
  have hres := k.res1 x hxL hx
  classical
  refine may_move (s := s) (t := t) (b := b) (Done := fun q => ∃ y ∈ D, y.v = c ∧ pL y = q) hs hds hbok (fun q => by rw [hb q]) (h.good x hxL) ?_ ?_
  · intro q hu h1 h2 h3
    obtain ⟨y, hy, e, hv⟩ := k.all q (fun e => h2 (by rw [← e]; exact h1))
    have hund : y.und x = true := by
      show underB (pL y) (pL x) = true
      rw [e]; exact hu
    have hcl := (h.closed.pair hxL hy).1
    have hxr : (x.res == 2) = false := by rw [hres]; simpa using h3
    rcases hv with hv | hv | hv
    · have hyr : y.res = 0 := by rw [k.res1 y hy hv, e]; exact h1
      have hrem : remB y = true := by
        unfold remB
        rw [hv, m1, hyr]; rfl
      refine ⟨y, plan_done h hp hy (.inl hrem) ?_ (PB.not_low hrem (ltC_under (by rw [e]; exact hu))), hv, e⟩
      rintro rfl
      rw [← e, under_irr] at hu; cases hu
    · exfalso
      have hyr : (y.res == 0) = false := by rw [k.res2 y hy hv, e]; simpa using h2
      unfold upB at hcl
      rw [hund, hmx, hxr, hyr] at hcl
      simp at hcl
    · exfalso
      unfold upB at hcl
      rw [hund, hmx, hxr, hv] at hcl
      simp [openB] at hcl
  · intro h0 h1 h2 h3
    obtain ⟨y, hy, e, hv⟩ := k.all (parT (pL x)).1 (fun e => h3 (by rw [← e]; exact h2))
    have hu := par_under h0
    have hund : x.und y = true := by
      show underB (pL x) (pL y) = true
      rw [e]; exact hu
    have hcl := (h.closed.pair hy hxL).2
    have hxr : (x.res == 0) = false := by rw [hres]; simpa using h1
    have hremx : remB x = false := by unfold remB; rw [hmx, hxr]; rfl
    rcases hv with hv | hv | hv
    · have hne : y ≠ x := by
        rintro rfl
        rw [← e, under_irr] at hu; cases hu
      refine ⟨y, plan_done h hp hy (.inr (moves_rest (by rw [hv]; exact m1))) hne (PB.not_up hremx (ltC_under (by rw [e]; exact hu))), hv, e⟩
    · exfalso
      have hyr : (y.res == 2) = false := by rw [k.res2 y hy hv, e]; simpa using h3
      unfold lowB at hcl
      rw [hund, hmx, hxr, hyr] at hcl
      simp at hcl
    · exfalso
      unfold lowB at hcl
      rw [hund, hmx, hv] at hcl
      simp [openB] at hcl
/-- between two of the plan's changes -/
structure Mid (v w : PT) (D : List CV) (a b : PT) : Prop where
  oka : TreeOk a
  okb : TreeOk b
  a_ : ∀ p, getL a p = if (∃ x ∈ D, x.v = 2 ∧ pL x = p) then getL w p else getL v p
  b_ : ∀ p, getL b p = if (∃ x ∈ D, x.v = 1 ∧ pL x = p) then getL v p else getL w p
open Classical in
theorem mid_snoc {D : List CV} {x : CV} {c : Int} {q : List UInt8} (h : x.v ≠ c) : (∃ y ∈ D ++ [x], y.v = c ∧ pL y = q) ↔ (∃ y ∈ D, y.v = c ∧ pL y = q) := by
  constructor
  · rintro ⟨y, hy, h1, h2⟩
    rcases List.mem_append.1 hy with hy | hy
    · exact ⟨y, hy, h1, h2⟩
    · rw [List.mem_singleton] at hy; subst hy; exact absurd h1 h
  · rintro ⟨y, hy, h1, h2⟩
    exact ⟨y, List.mem_append_left _ hy, h1, h2⟩
theorem mid_put {D : List CV} {x : CV} {c : Int} {s t b : PT} (hs : TreeOk s) (hb : ∀ q, getL b q = if (∃ y ∈ D, y.v = c ∧ pL y = q) then getL s q else getL t q) (hx : x.v = c) (hm : mayS b (pL x) (getL s (pL x)) = 0) :
    ∀ q, getL (setS b (pL x) (getL s (pL x))) q = if (∃ y ∈ D ++ [x], y.v = c ∧ pL y = q) then getL s q else getL t q := by
  intro q
  rw [getL_set hs hm, hb]
  by_cases e : q = pL x
  · rw [if_pos e, if_pos ⟨x, by simp, hx, e.symm⟩, e]
  · rw [if_neg e]
    have : (∃ y ∈ D ++ [x], y.v = c ∧ pL y = q) ↔ (∃ y ∈ D, y.v = c ∧ pL y = q) := by
      constructor
      · rintro ⟨y, hy, h1, h2⟩
        rcases List.mem_append.1 hy with hy | hy
        · exact ⟨y, hy, h1, h2⟩
        · rw [List.mem_singleton] at hy; subst hy; exact absurd h2.symm e
      · rintro ⟨y, hy, h1, h2⟩
        exact ⟨y, List.mem_append_left _ hy, h1, h2⟩
    simp only [this]
theorem works_all {v w : PT} {L : List CV} (h : WorksL v w L) (hv : TreeOk v) (hdv : DirsOk v) (hw : TreeOk w) (hdw : DirsOk w) : ∀ (R D : List CV) (a b : PT), planS L = D ++ R → Mid v w D a b →
    ((applyO a b R).2.2 = 0 ∨ (applyO a b R).2.2 = 24) ∧ ((applyO a b R).2.2 = 0 → Mid v w (planS L) (applyO a b R).1 (applyO a b R).2.1)
  | [], D, a, b, hp, hm => by
    rw [List.append_nil] at hp
    rw [hp]
    exact ⟨.inl rfl, fun _ => hm⟩
  | x :: R, D, a, b, hp, hm => by
    have hxL : x ∈ L := plan_mem (by rw [hp]; simp)
    have hp2 : planS L = (D ++ [x]) ++ R := by rw [hp]; simp
    have hother : ∀ c : Int, x.v ≠ c → ¬ ∃ y ∈ D, y.v = c ∧ pL y = pL x := by
      rintro c hc ⟨y, hy, h1, h2⟩
      have hyL : y ∈ L := plan_mem (by rw [hp]; exact List.mem_append_left _ hy)
      have := h.inj hyL hxL h2
      rw [this] at h1
      exact hc h1
    unfold applyO
    by_cases h1 : x.v = 1
    · have hga : getL a (pL x) = getL v (pL x) := by rw [hm.a_, if_neg (hother 2 (by rw [h1]; decide))]
      have hst : stepO a b x = (a, setS b (pL x) (getL v (pL x)), mayS b (pL x) (getL v (pL x))) := by unfold stepO; rw [if_pos h1, hga]
      rw [hst]
      have hmay := h.way1.may h hv hdv hm.okb hp h1 hm.b_
      by_cases h0 : mayS b (pL x) (getL v (pL x)) = 0
      · rw [if_pos h0]
        refine works_all h hv hdv hw hdw R (D ++ [x]) _ _ hp2 ⟨hm.oka, hm.okb.set _ _, fun p => ?_, mid_put hv hm.b_ h1 h0⟩
        rw [hm.a_]
        simp only [mid_snoc (D := D) (x := x) (c := 2) (q := p) (by rw [h1]; decide)]
      · rw [if_neg h0]
        exact ⟨hmay, fun e => absurd e h0⟩
    · by_cases h2 : x.v = 2
      · have hgb : getL b (pL x) = getL w (pL x) := by rw [hm.b_, if_neg (hother 1 (by rw [h2]; decide))]
        have hst : stepO a b x = (setS a (pL x) (getL w (pL x)), b, mayS a (pL x) (getL w (pL x))) := by unfold stepO; rw [if_neg h1, if_pos h2, hgb]
        rw [hst]
        have hmay := h.way2.may h hw hdw hm.oka hp h2 hm.a_
        by_cases h0 : mayS a (pL x) (getL w (pL x)) = 0
        · rw [if_pos h0]
          refine works_all h hv hdv hw hdw R (D ++ [x]) _ _ hp2 ⟨hm.oka.set _ _, hm.okb, mid_put hw hm.a_ h2 h0, fun p => ?_⟩
          rw [hm.b_]
          simp only [mid_snoc (D := D) (x := x) (c := 1) (q := p) (by rw [h2]; decide)]
        · rw [if_neg h0]
          exact ⟨hmay, fun e => absurd e h0⟩
      · have hst : stepO a b x = (a, b, 0) := by unfold stepO; rw [if_neg h1, if_neg h2]
        rw [hst]
        rw [if_pos rfl]
        refine works_all h hv hdv hw hdw R (D ++ [x]) _ _ hp2 ⟨hm.oka, hm.okb, fun p => ?_, fun p => ?_⟩
        · rw [hm.a_]; simp only [mid_snoc (D := D) (x := x) (c := 2) (q := p) h2]
        · rw [hm.b_]; simp only [mid_snoc (D := D) (x := x) (c := 1) (q := p) h1]
theorem Mid.start {v w : PT} (hv : TreeOk v) (hw : TreeOk w) : Mid v w [] v w := ⟨hv, hw, fun p => by simp, fun p => by simp⟩
/-- what stands then -/
theorem works_end {v w a b : PT} {L : List CV} (h : WorksL v w L) (hm : Mid v w (planS L) a b) {x : CV} (hx : x ∈ L) :
    (x.v ≠ 5 → getL a (pL x) = getL b (pL x)) ∧ (x.v = 5 → getL a (pL x) = getL v (pL x) ∧ getL b (pL x) = getL w (pL x)) := by
  have hother : ∀ c : Int, x.v ≠ c → ¬ ∃ y ∈ planS L, y.v = c ∧ pL y = pL x := by
    rintro c hc ⟨y, hy, h1, h2⟩
    have := h.inj (plan_mem hy) hx h2
    rw [this] at h1
    exact hc h1
  rw [hm.a_, hm.b_]
  rcases h.verd x hx with e | e | e | e
  · refine ⟨fun _ => ?_, fun e2 => by rw [e] at e2; cases e2⟩
    rw [if_neg (hother 2 (by rw [e]; decide)), if_pos ⟨x, mem_plan hx (.inr (moves_rest (by rw [e]; rfl))), e, rfl⟩]
  · refine ⟨fun _ => ?_, fun e2 => by rw [e] at e2; cases e2⟩
    rw [if_neg (hother 1 (by rw [e]; decide)), if_pos ⟨x, mem_plan hx (.inr (moves_rest (by rw [e]; rfl))), e, rfl⟩]
  · refine ⟨fun _ => ?_, fun e2 => by rw [e] at e2; cases e2⟩
    rw [if_neg (hother 2 (by rw [e]; decide)), if_neg (hother 1 (by rw [e]; decide))]
    exact h.same x hx e
  · refine ⟨fun e2 => absurd e e2, fun _ => ?_⟩
    rw [if_neg (hother 2 (by rw [e]; decide)), if_neg (hother 1 (by rw [e]; decide))]
    exact ⟨rfl, rfl⟩
end Go.Proofs.YtkeledbgmpienaaGreat

/- tenderref28: Apply. -/
namespace Go.Proofs.YtkeledbgmpienaaGreat
open Go.RowKit Go.WideShapes Go.ChangeShapes Go.ChangeAt Go.Maps

theorem bv_nil (w : World) (Z : Nat → Prop) : BV.ok w Z ⟨none, 0, []⟩ := ⟨Rd.nil, by simp, by simp [maxLen]⟩
theorem refGetO_any (A : Option Addr) (c : Nat) (L : List (List UInt8 × LV)) (x : CV) (w : World) (h : Its w A L) (hp : x.p.size ≤ 1048576) :
    Calls Tryz.prog 11 #[.slice A L.length c, .string x.p] w fun e w' => ∃ (bA : Option Addr) (bc : Nat) (bl : List UInt8), e = .returned (.agg #[.int .i64 (getL (plainL L) (pL x)).1, .slice bA bl.length bc]) ∧ Hid (bl = (getL (plainL L) (pL x)).2) ∧ BV.ok w' (fun _ => True) ⟨bA, bc, bl⟩ ∧ bl.length ≤ 140737488355328 ∧ Below w.heap.size w w' := by
  have hl : (pL x).length ≤ 1048576 := by unfold pL; rw [Array.length_toList]; exact hp
  refine (refGet08_any A c L (pL x) w h (by omega)).mono ?_
  rintro e w' ⟨rfl, hb⟩
  rw [getL_plain]
  rcases hq : getR L (pL x) with _ | o
  · exact ⟨none, 0, [], rfl, Lib.hid rfl, bv_nil _ _, by simp, hb⟩
  · have hm := getR_mem hq
    exact ⟨o.x.A, o.x.c, o.x.l, rfl, Lib.hid rfl, (h.ok _ hm).below hb, (h.txt _ hm).2, hb⟩
end Go.Proofs.YtkeledbgmpienaaGreat

/- A book, plainly: which entry is spare, what Put answers and leaves. No program. -/
namespace Go.Proofs.YtkeledbgmpienaaGreat

/-- an entry, plainly: version, kind, bytes -/
abbrev EP := Int × Int × List UInt8
/-- the entry of nothing of the least version, the first of them -/
def spareB : List (List UInt8 × EP) → Option (List UInt8 × EP)
  | [] => none
  | x :: l => match spareB l with
    | none => if x.2.2.1 = 0 then some x else none
    | some y => if x.2.2.1 = 0 ∧ x.2.1 ≤ y.2.1 then some x else some y
/-- one is ahead of the other -/
def aheadB (x y : List UInt8 × EP) : Prop := x.2.1 < y.2.1 ∨ (x.2.1 = y.2.1 ∧ cmpT x.1 y.1 < 0)
theorem spareB_none : ∀ {T : List (List UInt8 × EP)}, spareB T = none → ∀ y ∈ T, y.2.2.1 ≠ 0
  | [], _, y, hy => by cases hy
  | x :: l, h, y, hy => by
    unfold spareB at h
    rcases hs : spareB l with _ | z
    · rw [hs] at h
      dsimp only at h
      split at h
      · cases h
      · rename_i hx
        rcases List.mem_cons.1 hy with rfl | hy
        · exact hx
        · exact spareB_none hs y hy
    · rw [hs] at h
      dsimp only at h
      split at h <;> cases h
theorem spareB_mem : ∀ {T : List (List UInt8 × EP)} {x : List UInt8 × EP}, spareB T = some x → x ∈ T ∧ x.2.2.1 = 0
  | [], _, h => by cases h
  | y :: l, x, h => by
    unfold spareB at h
    rcases hs : spareB l with _ | z
    · rw [hs] at h
      dsimp only at h
      split at h
      · rename_i hx
        injection h with h
        subst h
        exact ⟨List.mem_cons_self, hx⟩
      · cases h
    · rw [hs] at h
      dsimp only at h
      split at h
      · rename_i hx
        injection h with h
        subst h
        exact ⟨List.mem_cons_self, hx.1⟩
      · injection h with h
        subst h
        obtain ⟨h1, h2⟩ := spareB_mem hs
        exact ⟨List.mem_cons_of_mem _ h1, h2⟩
theorem spareB_least : ∀ {T : List (List UInt8 × EP)} {x : List UInt8 × EP}, SortR T → spareB T = some x → ∀ y ∈ T, y.2.2.1 = 0 → y = x ∨ aheadB x y
  | [], _, _, h, _, _, _ => by cases h
  | z :: l, x, hT, h, y, hy, h0 => by
    unfold SortR at hT
    rw [List.pairwise_cons] at hT
    unfold spareB at h
    rcases hs : spareB l with _ | q
    · rw [hs] at h
      dsimp only at h
      split at h
      · injection h with h
        subst h
        rcases List.mem_cons.1 hy with rfl | hy
        · exact .inl rfl
        · exact absurd h0 (spareB_none hs y hy)
      · cases h
    · rw [hs] at h
      dsimp only at h
      obtain ⟨hq, _⟩ := spareB_mem hs
      have ih := fun y hy h0 => spareB_least (x := q) hT.2 hs y hy h0
      split at h
      · rename_i hz
        injection h with h
        subst h
        rcases List.mem_cons.1 hy with rfl | hy
        · exact .inl rfl
        · refine .inr ?_
          have hzy := hT.1 y hy
          rcases ih y hy h0 with rfl | hh | ⟨e, _⟩
          · unfold aheadB
            by_cases e : z.2.1 = y.2.1
            · exact .inr ⟨e, hzy⟩
            · exact .inl (by omega)
          · exact .inl (by omega)
          · unfold aheadB
            by_cases e2 : z.2.1 = y.2.1
            · exact .inr ⟨e2, hzy⟩
            · exact .inl (by omega)
      · rename_i hz
        injection h with h
        subst h
        rcases List.mem_cons.1 hy with rfl | hy
        · refine .inr (.inl ?_)
          have : ¬ (y.2.1 ≤ q.2.1) := fun e => hz ⟨h0, e⟩
          omega
        · exact ih y hy h0
theorem spareB_snoc (x : List UInt8 × EP) : ∀ T : List (List UInt8 × EP), spareB (T ++ [x]) = match spareB T with
    | none => if x.2.2.1 = 0 then some x else none
    | some y => if x.2.2.1 = 0 ∧ x.2.1 < y.2.1 then some x else some y
  | [] => rfl
  | z :: T => by
    have ih := spareB_snoc x T
    rw [List.cons_append, spareB, spareB, ih]
    rcases spareB T with _ | q
    · dsimp only
      by_cases h1 : x.2.2.1 = 0
      · by_cases h2 : z.2.2.1 = 0
        · by_cases h3 : z.2.1 ≤ x.2.1
          · simp [h1, h2, h3, Int.not_lt.2 h3]
          · simp [h1, h2, h3, Int.not_le.1 h3]
        · simp [h1, h2]
      · by_cases h2 : z.2.2.1 = 0 <;> simp [h1, h2]
    · dsimp only
      by_cases h1 : x.2.2.1 = 0 ∧ x.2.1 < q.2.1
      · by_cases h2 : z.2.2.1 = 0
        · by_cases h3 : z.2.1 ≤ x.2.1
          · have h4 : z.2.1 ≤ q.2.1 := by omega
            simp [h1, h2, h3, h4, Int.not_lt.2 h3]
          · by_cases h4 : z.2.1 ≤ q.2.1
            · simp [h1, h2, h3, h4, Int.not_le.1 h3]
            · simp [h1, h2, h3, h4]
        · simp [h1, h2]
      · rw [if_neg h1]
        by_cases h2 : z.2.2.1 = 0 ∧ z.2.1 ≤ q.2.1
        · simp only [if_pos h2]
          have : ¬ (x.2.2.1 = 0 ∧ x.2.1 < z.2.1) := fun ⟨e1, e2⟩ => h1 ⟨e1, by omega⟩
          rw [if_neg this]
        · simp only [if_neg h2, if_neg h1]
theorem aheadB_asymm {x y : List UInt8 × EP} (h : aheadB x y) (k : aheadB y x) : False := by
  unfold aheadB at h k
  have := ordT.flip x.1 y.1
  omega
theorem aheadB_trans {x y z : List UInt8 × EP} (h : aheadB x y) (k : aheadB y z) : aheadB x z := by
  unfold aheadB at *
  rcases h with h | ⟨h1, h2⟩
  · rcases k with k | ⟨k1, _⟩
    · exact .inl (by omega)
    · exact .inl (by omega)
  · rcases k with k | ⟨k1, k2⟩
    · exact .inl (by omega)
    · exact .inr ⟨by omega, ordT.trans _ _ _ h2 k2⟩
/-- the least one is the spare one -/
theorem spareB_of {T : List (List UInt8 × EP)} {x : List UInt8 × EP} (hT : SortR T) (hx : x ∈ T) (h0 : x.2.2.1 = 0) (hl : ∀ y ∈ T, y.2.2.1 = 0 → y = x ∨ aheadB x y) : spareB T = some x := by
  rcases hs : spareB T with _ | z
  · exact absurd h0 (spareB_none hs x hx)
  · obtain ⟨hz, hz0⟩ := spareB_mem hs
    rcases hl z hz hz0 with rfl | h1
    · rfl
    · rcases spareB_least hT hs x hx h0 with rfl | h2
      · rfl
      · exact (aheadB_asymm h1 h2).elim
/-- what Put answers, and what it leaves; chk: what Check says of the entry -/
def putB (T : List (List UInt8 × EP)) (p : List UInt8) (x : EP) (chk : Int) : List (List UInt8 × EP) × Int :=
  if chk ≠ 0 then (T, chk)
  else if x.1 ≤ ((getR T p).map (·.1)).getD 0 then (T, 31)
  else if (getR T p).isNone = true ∧ 256 ≤ T.length then
    (spareB T).elim (T, 24) fun y => (putR (withoutR T y.1) p x, 0)
  else (putR T p x, 0)
end Go.Proofs.YtkeledbgmpienaaGreat

/- The versions of entries: Version, is, Session, Count, and the document's Parts. -/
namespace Go.Proofs.YtkeledbgmpienaaGreat
open Go.RowKit Go.WideShapes Go.ChangeShapes Go.ChangeAt

/-- a good session and count -/
def goodV (s c : Int) : Bool := decide (1 ≤ s) && decide (s ≤ 1099511627776) && decide (1 ≤ c) && decide (c ≤ 1048575)
theorem goodV_iff {s c : Int} : goodV s c = true ↔ 1 ≤ s ∧ s ≤ 1099511627776 ∧ 1 ≤ c ∧ c ≤ 1048575 := by
  unfold goodV; simp [and_assoc]
/-- is a number a version? -/
def isV (v : Int) : Bool := goodV (v / 1048576) (v % 1048576)


set_option maxHeartbeats 400000 in
theorem parts_any (v : Int) (w : World) (h0 : 0 ≤ v) (h1 : v < 18446744073709551616) :
    Calls Tryz.prog 48 #[.int .u64 v] w fun e w' => e = .returned (.tuple #[.int .u64 (v / 1048576), .int .u64 (v % 1048576), .bool (isV v)]) ∧ w = w' := by
  have e1 : isV v = (decide (1 ≤ v / 1048576) && decide (v / 1048576 ≤ 1099511627776) && decide (1 ≤ v % 1048576)) := by
    unfold isV goodV
    rw [show decide (v % 1048576 ≤ 1048575) = true from by simp; omega, Bool.and_true]
  have E1 := Lib.hid e1
  clear e1
  go_enter Tryz.func48, Tryz.ntmps48
  go_wp2
  all_goals
    go_ret3
    exact ⟨ret3b (by rw [E1.out, Bool.eq_iff_iff]; simp; omega), rfl⟩

theorem wrap_u64 (n : Int) : IntKind.u64.wrap n = n % 18446744073709551616 := by simp [IntKind.wrap, IntKind.bits, IntKind.signed]

end Go.Proofs.YtkeledbgmpienaaGreat

/- tenderref03: User. -/
namespace Go.Proofs.YtkeledbgmpienaaGreat
open Go.RowKit

theorem refUser_any (s : ByteArray) (hs : s.size ≤ 9223372036854775807) (w : World) : Calls Tryz.prog 47 #[.string s] w fun e w' => e = .returned (.bool (userB (tl s))) ∧ Below w.heap.size w w' := by
  have HG := Lib.hid (fun w => refGood_any s hs w)
  cases h : goodB (tl s)
  · have hr : userB (tl s) = false := by unfold userB; rw [h]; rfl
    rw [hr]
    rw [h] at HG
    clear hr h
    go_enter Tryz.func47, Tryz.ntmps47
    go_wp2_with fail
    refine (HG.out _).mono ?_
    rintro e w1 ⟨rfl, hb⟩
    go_wp2_with fail
    go_ret
    exact ⟨rfl, hb⟩
  · have h0 : 0 < s.size := by have := List.length_pos_iff.2 (goodB_ne h); rwa [tl_len] at this
    obtain ⟨R, hR⟩ : ∃ R, R = userB (tl s) := ⟨_, rfl⟩
    have HR : Hid (R = !((tl s).head? == some 126)) := by show _ = _; rw [hR]; unfold userB; rw [h]; rfl
    rw [← hR]
    rw [h] at HG
    clear hR h
    go_enter Tryz.func47, Tryz.ntmps47
    go_wp2_with fail
    refine (HG.out _).mono ?_
    rintro e w1 ⟨rfl, hb⟩
    go_wp2_with fail
    go_ret
    refine ⟨ret_b ?_, hb⟩
    rw [HR.out]
    have e : (tl s).head? = some s[0] := by
      obtain ⟨⟨l⟩⟩ := s
      cases l with
      | nil => exact (Nat.lt_irrefl 0 h0).elim
      | cons c l => rfl
    rw [e, Bool.eq_iff_iff]
    generalize s[0] = c
    by_cases hc : c = 126
    · subst hc; decide
    · have h2 : ¬ c.toNat = 126 := fun e => hc (UInt8.toNat_inj.1 e)
      simp [hc]
      omega
end Go.Proofs.YtkeledbgmpienaaGreat

/- entry and tenderref21: Check, Same, Newer, Row, Clone. -/
namespace Go.Proofs.YtkeledbgmpienaaGreat
open Go.RowKit

/-- an entry -/
structure EV where
  p : ByteArray
  v : Int
  k : Int
  x : BV
def EV.cells (o : EV) : List Value := [.string o.p, .int .u64 o.v, .int .i64 o.k, .slice o.x.A o.x.l.length o.x.c]
/-- what an answer to 'is an entry right?' is -/
def checkE (p : List UInt8) (v k : Int) (n : Nat) : Int := if userB p = false then 23 else if isV v = false then 2 else checkN k n

set_option maxRecDepth 100000 in
set_option maxHeartbeats 400000 in
theorem refEntryCheck_any (p : ByteArray) (v k : Int) (A : Option Addr) (n c : Nat) (w : World) (hp : p.size ≤ 9223372036854775807) (hv : 0 ≤ v ∧ v < 18446744073709551616) (hn : n ≤ 140737488355328) :
    Calls Tryz.prog 20 #[.agg #[.string p, .int .u64 v, .int .i64 k, .slice A n c]] w fun e w' => e = .returned (.int .i64 (checkE (tl p) v k n)) ∧ Below w.heap.size w w' := by
  obtain ⟨R, hR⟩ : ∃ R, R = checkE (tl p) v k n := ⟨_, rfl⟩
  rw [← hR]
  have HU := Lib.hid (fun w => refUser_any p hp w)
  have HV := Lib.hid (fun w => parts_any v w hv.1 hv.2)
  have HL := Lib.hid (fun w => leafCheckR_any k A n c w hn)
  cases hu : userB (tl p)
  · have HR : Hid (R = 23) := by show _ = _; rw [hR]; unfold checkE; rw [hu, if_pos rfl]
    rw [hu] at HU
    clear hR hu
    go_enter Tryz.func20, Tryz.ntmps20
    go_wp2_with fail
    refine (HU.out _).mono ?_
    rintro e w1 ⟨rfl, hb1⟩
    go_wp2_with fail
    go_ret
    exact ⟨ret_i HR.out.symm, ((Below.refl _ _).alloc (Nat.le_refl _) _).trans (hb1.mono (by simp))⟩
  · rw [hu] at HU
    have b0 := Blk.new w 41 #[.string p, .int .u64 v, .int .i64 k, .slice A n c]
    have hl : Below w.heap.size w (w.alloc (.cells #[.string p, .int .u64 v, .int .i64 k, .slice A n c] 41)) := (Below.refl _ _).alloc (Nat.le_refl _) _
    cases hvv : isV v
    · have HR : Hid (R = 2) := by show _ = _; rw [hR]; unfold checkE; rw [hu, hvv]; rfl
      rw [hvv] at HV
      clear hR hu hvv
      go_enter Tryz.func20, Tryz.ntmps20
      go_wp2_with fail
      generalize w.alloc (.cells #[.string p, .int .u64 v, .int .i64 k, .slice A n c] 41) = W at *
      have hs := hl.size
      refine (HU.out _).mono ?_
      rintro e w1 ⟨rfl, hb1⟩
      have b1 := b0.below hb1
      have c1 : w1.cell? ⟨w.heap.size, 1, none⟩ = some (.int .u64 v) := b1.cell 1
      go_wp2_with fail
      refine (HV.out _).mono ?_
      rintro e w2 ⟨rfl, rfl⟩
      go_wp2_with fail
      go_ret
      exact ⟨ret_i HR.out.symm, hl.trans (hb1.mono hs)⟩
    · have HR : Hid (R = checkN k n) := by show _ = _; rw [hR]; unfold checkE; rw [hu, hvv]; rfl
      rw [hvv] at HV
      rw [← HR.out] at HL
      clear hR hu hvv
      go_enter Tryz.func20, Tryz.ntmps20
      go_wp2_with fail
      generalize w.alloc (.cells #[.string p, .int .u64 v, .int .i64 k, .slice A n c] 41) = W at *
      have hs := hl.size
      refine (HU.out _).mono ?_
      rintro e w1 ⟨rfl, hb1⟩
      have b1 := b0.below hb1
      have c1 : w1.cell? ⟨w.heap.size, 1, none⟩ = some (.int .u64 v) := b1.cell 1
      have c2 : w1.cell? ⟨w.heap.size, 2, none⟩ = some (.int .i64 k) := b1.cell 2
      have c3 : w1.cell? ⟨w.heap.size, 3, none⟩ = some (.slice A n c) := b1.cell 3
      go_wp2_with fail
      refine (HV.out _).mono ?_
      rintro e w2 ⟨rfl, rfl⟩
      go_wp2_with fail
      refine (HL.out _).mono ?_
      rintro e w3 ⟨rfl, hb3⟩
      go_wp2_with fail
      go_ret
      exact ⟨rfl, hl.trans ((bthen hb1 hb3).mono hs)⟩
end Go.Proofs.YtkeledbgmpienaaGreat

/- tenderlaw21: Light. -/
namespace Go.Proofs.YtkeledbgmpienaaGreat
open Go.RowKit

/-- what is known of an entry -/
structure EV.ok (w : World) (Z : Nat → Prop) (o : EV) : Prop where
  x : o.x.ok w Z
  len : o.x.l.length ≤ 140737488355328
  p : o.p.size ≤ 140737488355328
  v : 0 ≤ o.v ∧ o.v < 18446744073709551616
  k : -9223372036854775808 ≤ o.k ∧ o.k < 9223372036854775808
theorem EV.ok.fr {w w' : World} {Z S : Nat → Prop} {o : EV} (h : o.ok w Z) (k : Fr S w w') (hs : ∀ b, b < w.heap.size → Z b → ¬ S b) : o.ok w' Z := ⟨h.x.fr k hs, h.len, h.p, h.v, h.k⟩
theorem EV.ok.below {w w' : World} {Z : Nat → Prop} {o : EV} (h : o.ok w Z) (k : Below w.heap.size w w') : o.ok w' Z := h.fr (Fr.of_below k (fun _ => False)) (fun _ _ _ h => h)
theorem EV.ok.mono {w : World} {Z Z' : Nat → Prop} {o : EV} (h : o.ok w Z) (hz : ∀ b, b < w.heap.size → Z b → Z' b) : o.ok w Z' := ⟨h.x.mono hz, h.len, h.p, h.v, h.k⟩
/-- entries in a slice -/
structure Ents (w : World) (Z : Nat → Prop) (A : Option Addr) (l : List EV) : Prop where
  rd : Rd w Z 4 A l.length (l.flatMap EV.cells)
  ok : ∀ o ∈ l, o.ok w Z
  len : l.length ≤ 140737488355328
theorem Ents.fr {w w' : World} {Z S : Nat → Prop} {A : Option Addr} {l : List EV} (h : Ents w Z A l) (k : Fr S w w') (hs : ∀ b, b < w.heap.size → Z b → ¬ S b) : Ents w' Z A l :=
  ⟨h.rd.fr k hs, fun o ho => (h.ok o ho).fr k hs, h.len⟩
theorem Ents.below {w w' : World} {Z : Nat → Prop} {A : Option Addr} {l : List EV} (h : Ents w Z A l) (k : Below w.heap.size w w') : Ents w' Z A l := h.fr (Fr.of_below k (fun _ => False)) (fun _ _ _ h => h)
end Go.Proofs.YtkeledbgmpienaaGreat

/- entry.Row, Clone. -/
namespace Go.Proofs.YtkeledbgmpienaaGreat
open Go.RowKit

end Go.Proofs.YtkeledbgmpienaaGreat

/- book.Book in memory; what only tells: Session, Len, get. -/
namespace Go.Proofs.YtkeledbgmpienaaGreat
open Go.RowKit

def EV.val (o : EV) : Value := .agg #[.string o.p, .int .u64 o.v, .int .i64 o.k, .slice o.x.A o.x.l.length o.x.c]
/-- what an entry is, plainly -/
def EV.ep (o : EV) : EP := (o.v, o.k, o.x.l)
/-- the entries of a row, plainly -/
def plainB (L : List (List UInt8 × EV)) : List (List UInt8 × EP) := L.map fun x => (x.1, x.2.ep)
/-- is an entry right? -/
def checkP (p : List UInt8) (x : EP) : Int := checkE p x.1 x.2.1 x.2.2.length
/-- what every book keeps -/
structure BookOk (T : List (List UInt8 × EP)) : Prop where
  sort : SortR T
  good : ∀ x ∈ T, checkP x.1 x.2 = 0
  len : T.length ≤ 256
theorem BookOk.nil : BookOk [] := ⟨sortR_nil, by simp, by simp⟩
theorem checkP_good {p : List UInt8} {x : EP} (h : checkP p x = 0) : userB p = true ∧ isV x.1 = true ∧ checkN x.2.1 x.2.2.length = 0 := by
  unfold checkP checkE at h
  split at h
  · simp at h
  · rename_i h1
    split at h
    · simp at h
    · rename_i h2
      exact ⟨by simpa using h1, by simpa using h2, h⟩
theorem userB_good {p : List UInt8} (h : userB p = true) : goodB p = true := by
  unfold userB at h
  simp only [Bool.and_eq_true] at h
  exact h.1
/-- what Put answers, and what it leaves -/
def putP (T : List (List UInt8 × EP)) (p : List UInt8) (x : EP) : List (List UInt8 × EP) × Int := putB T p x (checkP p x)
theorem BookOk.put {T : List (List UInt8 × EP)} (h : BookOk T) (p : List UInt8) (x : EP) : BookOk (putP T p x).1 := by
  unfold putP putB
  split
  · exact h
  · rename_i hc
    rw [Classical.not_not] at hc
    split
    · exact h
    · split
      · rename_i hf
        rcases hs : spareB T with _ | y
        · exact h
        · dsimp only [Option.elim]
          obtain ⟨hy, _⟩ := spareB_mem hs
          have hw := h.sort.without_len (h.sort.get hy)
          refine ⟨(h.sort.without _).put _ _, fun z hz => ?_, ?_⟩
          · unfold putR at hz
            rcases mem_ins.1 hz with rfl | hz
            · exact hc
            · exact h.good z (List.mem_filter.1 (List.mem_filter.1 hz).1).1
          · unfold putR
            rw [ins_len]
            have h1 := without_len_le (withoutR T y.1) p
            have h2 := h.len
            omega
      · rename_i hf
        refine ⟨h.sort.put _ _, fun z hz => ?_, ?_⟩
        · unfold putR at hz
          rcases mem_ins.1 hz with rfl | hz
          · exact hc
          · exact h.good z (List.mem_filter.1 hz).1
        · unfold putR
          dsimp only
          rw [ins_len]
          have h2 := h.len
          rcases hq : getR T p with _ | v
          · rw [hq] at hf
            simp at hf
            rw [without_self hq]
            omega
          · have := h.sort.without_len hq
            omega
/-- an entry in a book -/
structure EV.inB (w : World) (p : List UInt8) (o : EV) : Prop where
  own : OwB w 0 (.slice o.x.A o.x.l.length o.x.c) o.x.l
  p : tl o.p = p
theorem EV.inB.x {w : World} {p : List UInt8} {o : EV} (h : o.inB w p) : o.x.ok w (fun _ => True) := by
  obtain ⟨A', c', e, h2, h3, _⟩ := h.own.form
  injection e with e1 e2 e3
  subst e1 e3
  exact ⟨h.own.rd.mono (fun _ _ _ => trivial), h2, h3⟩
theorem EV.inB.below {w w' : World} {p : List UInt8} {o : EV} (h : o.inB w p) (k : Below w.heap.size w w') : o.inB w' p := ⟨h.own.below k, h.p⟩
namespace BookAt
variable {w w' : World} {bb : Nat} {mo : Option Nat} {L : List (List UInt8 × EV)} {s : Int}
theorem own_map {mb base n size : Nat} {e : TypeId} {v : Value} {xs : List Value} {K : List (List UInt8 × Value)} (hm : MapAt w Tryz.prog 9 mb K) (h : w.ownsRow base e size v n xs) : v.ownBlock ≠ some mb := by
  rcases h.2 with ⟨rfl, _⟩ | ⟨g', cap, cur, rfl, _, hh, _⟩
  · simp [Value.ownBlock]
  · intro he
    have e1 : g' = mb := by simpa [Value.ownBlock] using he
    subst e1
    exact hm.not_cells hh
end BookAt
end Go.Proofs.YtkeledbgmpienaaGreat

/- book.Book: get, Get, Next. -/
namespace Go.Proofs.YtkeledbgmpienaaGreat
open Go.RowKit

end Go.Proofs.YtkeledbgmpienaaGreat

/- book.Book: Get, Next. -/
namespace Go.Proofs.YtkeledbgmpienaaGreat
open Go.RowKit

end Go.Proofs.YtkeledbgmpienaaGreat
