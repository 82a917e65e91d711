/- slices.SortFunc of texts by name.Compare: a row of the call's own, in the paths' order. -/
import Derived.Test.YtdnljmncdbcgeaaGreatA07
import Derived.Shelf.Small.Bits
import Derived.Sort.OwnSorted

namespace Go.Proofs.YtdnljmncdbcgeaaGreat
open Go.Shelf Go.RowKit Go.Lib Go.Sort

/-- a text that is no longer than a text may be -/
abbrev TxtB := { l : List UInt8 // l.length ≤ 9223372036854775807 }
instance : Inhabited TxtB := ⟨⟨[], by simp⟩⟩
def txtV (x : TxtB) : Value := .string ⟨⟨x.1⟩⟩
def cmpX (x y : TxtB) : Int := cmpT x.1 y.1

section
variable {α : Type} [Inhabited α] {enc : α → Value}
theorem heap_sortedG {w : World} {g n : Nat} {os : Array Obj} {cur : Array Value} {e : TypeId} {fr : Nat × Nat} (d : Array α) (hb : w.heap[g]? = some (.cells cur e fr)) :
    (grow (putRow enc (Sort.ahead w n) g 0 d) os).heap[g]? = some (.cells (putCells enc 0 d cur) e fr) := by
  have hg : g < w.heap.size := (Array.getElem?_eq_some_iff.1 hb).1
  rw [heap_grow_old _ _ (by simpa using hg)]
  simp [putRow, mapBlock, Sort.ahead, Array.getElem?_modify, hb, onCells]
theorem grownBy_sortedG {w : World} {g n : Nat} {os : Array Obj} (d : Array α) : w.grownBy (grow (putRow enc (Sort.ahead w n) g 0 d) os) (some g) := by
  refine ⟨rfl, rfl, rfl, by simp, fun k hk hne => ?_⟩
  rw [heap_grow_old _ _ (by simpa using hk)]
  have : g ≠ k := fun e => hne (by rw [e])
  simp [putRow, mapBlock, Sort.ahead, Array.getElem?_modify, this]
theorem take_putCellsG (cur : Array Value) (ts : List α) (h : ts.length ≤ cur.size) : (putCells enc 0 ts.toArray cur).toList.take ts.length = ts.map enc := by
  apply List.ext_getElem?
  intro j
  by_cases hj : j < ts.length
  · rw [List.getElem?_take_of_lt hj, Array.getElem?_toList]
    simp [putCells, hj, show j < cur.size by omega]
  · rw [List.getElem?_take_eq_none (by omega), List.getElem?_eq_none (by simp; omega)]
theorem ownsRow_sortedG {w : World} {base g cap n : Nat} {e : TypeId} {os : Array Obj} {cur : Array Value} {ss ts : List α} (hl : ts.length = ss.length) (hbase : base ≤ g) (hb : w.heap[g]? = some (.cells cur e (0, 0)))
    (h1 : ss.length ≤ cap) (h2 : cap ≤ maxLen) (h3 : cur.size = cap * 1) :
    (grow (putRow enc (Sort.ahead w n) g 0 ts.toArray) os).ownsRow base e 1 (.slice (some ⟨g, 0, none⟩) ss.length cap) ss.length (ts.map enc) :=
  ⟨by simp [hl], .inr ⟨g, cap, _, rfl, hbase, heap_sortedG _ hb, h1, h2, by simp [putCells, h3], by rw [Nat.mul_one, ← hl]; exact take_putCellsG cur ts (by omega)⟩⟩
theorem holds_of_blockG {w : World} {g : Nat} {cur : Array Value} {e : TypeId} {ss : List α} (hb : w.heap[g]? = some (.cells cur e (0, 0))) (ht : cur.toList.take ss.length = ss.map enc) : Holds enc w g 0 ss.toArray := by
  intro j hj
  have hj' : j < ss.length := by simpa using hj
  refine ⟨?_, by simp [World.frozen?, hb]⟩
  have h1 : (cur.toList.take ss.length)[j]? = (ss.map enc)[j]? := by rw [ht]
  rw [List.getElem?_take_of_lt hj'] at h1
  simp only [World.cell?, hb, Nat.zero_add]
  simp only [Option.isSome_none, Bool.false_eq_true, if_false]
  rw [← Array.getElem?_toList, h1]
  simp [hj']
end
theorem cmpX_lt (x y : TxtB) : ltOf cmpX x y = decide (cmpT x.1 y.1 < 0) := rfl
theorem swoX : SWO (ltOf cmpX) where
  irrefl x := by rw [cmpX_lt, cmpT_self]; simp
  trans x y z h1 h2 := by
    rw [cmpX_lt] at *
    simp only [decide_eq_true_eq] at *
    exact ordT.trans _ _ _ h1 h2
  ntrans x y z h1 h2 := by
    rw [cmpX_lt] at *
    have := leT_trans z.1 y.1 x.1 (by simpa [leT] using h2) (by simpa [leT] using h1)
    simpa [leT] using this
theorem totX (x y : TxtB) (h1 : ltOf cmpX x y = false) (h2 : ltOf cmpX y x = false) : x = y := by
  rw [cmpX_lt] at *
  exact Subtype.ext (leT_anti x.1 y.1 (by simpa [leT] using h2) (by simpa [leT] using h1))
theorem cmpReadsX (blk off size : Nat) (w : World) : CmpReads Tryz.prog 70 #[] txtV cmpX blk off size w := by
  intro m os dk _ x y
  refine (compare_any ⟨⟨x.1⟩⟩ ⟨⟨y.1⟩⟩ x.2 y.2 _).mono ?_
  rintro e w' ⟨rfl, hq⟩
  exact ⟨rfl, hq⟩
theorem txts : ∀ (ss : List (List UInt8)), (∀ x ∈ ss, x.length ≤ 140737488355328) → ∃ ts : List TxtB, ts.map Subtype.val = ss
  | [], _ => ⟨[], rfl⟩
  | x :: ss, h => by
    obtain ⟨ts, e⟩ := txts ss (fun y hy => h y (by simp [hy]))
    exact ⟨⟨x, by have := h x (by simp); omega⟩ :: ts, by rw [List.map_cons, e]⟩
set_option maxHeartbeats 1000000 in
/-- a row of texts is sorted by name.Compare -/
theorem sortsT : SortsT := by
  intro base A c ss w hown hl hss
  obtain ⟨ts, hts⟩ := txts ss hl
  have hlen : ts.length = ss.length := by rw [← hts, List.length_map]
  have hmv : ss.map stv = ts.map txtV := by rw [← hts, List.map_map]; rfl
  rcases hown.2 with ⟨hnil, h0⟩ | ⟨g, cap, cur, hv, hbase, hb, h1, h2, h3, h4⟩
  · obtain ⟨rfl, hl0, rfl⟩ : A = none ∧ ss.length = 0 ∧ c = 0 := by simpa using hnil
    obtain rfl : ss = [] := List.eq_nil_of_length_eq_zero hl0
    have hcon := AnyF.slices_SortFunc_none { Tryz.sortT with } none 0 (.func (.func 70) #[] #[]) w
    change Calls Tryz.prog 130 _ _ _ at hcon
    refine hcon.mono ?_
    rintro e w' ⟨rfl, rfl⟩
    exact ⟨rfl, by simpa using hown, World.grownBy.refl _ _⟩
  · obtain ⟨rfl, rfl⟩ : A = some ⟨g, 0, none⟩ ∧ c = cap := by simpa using hv
    have eg : ∀ args w, (callFunc 70 args).run Tryz.prog w = .ok (.enter 70 args) w := enters_of Tryz.func70 (by kernel_rfl) rfl
    have hglt : g < w.heap.size := (Array.getElem?_eq_some_iff.1 hb).1
    have hH : Holds txtV w g 0 ts.toArray := holds_of_blockG hb (by rw [hlen, ← hmv]; simpa using h4)
    have hbig : ss.length < 4611686018427387904 := by omega
    have hcon := Any.slices_SortFunc_total Tryz.sortT txtV (fun _ => rfl) cmpX swoX 70 #[] g 0 c ts.toArray w eg (cmpReadsX g 0 ts.toArray.size w).lays hH hglt (by simpa [hlen] using hbig) totX
    change Calls Tryz.prog 130 _ _ _ at hcon
    rw [show ts.toArray.size = ss.length by simp [hlen]] at hcon
    refine hcon.mono ?_
    rintro e w' ⟨rfl, n, os, rfl⟩
    have hms : (ts.mergeSort fun x y => !(ltOf cmpX) y x).map Subtype.val = ss.mergeSort leT := by
      rw [← hts]
      exact List.map_mergeSort (fun a _ b _ => rfl)
    refine ⟨rfl, ?_, ?_⟩
    · have := ownsRow_sortedG (enc := txtV) (n := n) (os := os) (ts := ts.mergeSort fun x y => !(ltOf cmpX) y x) (ss := ts) (by rw [List.length_mergeSort]) hbase hb (by omega) h2 h3
      rw [hlen] at this
      have e2 : (ss.mergeSort leT).map stv = (ts.mergeSort fun x y => !(ltOf cmpX) y x).map txtV := by rw [← hms, List.map_map]; rfl
      rw [e2]
      exact this
    · exact grownBy_sortedG _
end Go.Proofs.YtdnljmncdbcgeaaGreat

/- slices.Compact of a sorted row of texts of the call's own. -/
namespace Go.Proofs.YtdnljmncdbcgeaaGreat
open Go.Shelf Go.RowKit Go.Lib Go.Sort

theorem own_cut {w : World} {base : Nat} {e : TypeId} {size n c : Nat} {A : Option Addr} {xs : List Value} (h : w.ownsRow base e size (.slice A n c) n xs) (k : Nat) (hk : k ≤ n) (hA : A = none → k = 0) : w.ownsRow base e size (.slice A k c) k (xs.take (k * size)) := by
  have hkn : k * size ≤ n * size := Nat.mul_le_mul_right _ hk
  refine ⟨by rw [List.length_take, h.1]; omega, ?_⟩
  rcases h.2 with ⟨hv, h0⟩ | ⟨g, cap, cur, hv, hb, hg, h1, h2, h3, h4⟩
  · injection hv with e1 e2 e3
    subst e1 e3
    have : k = 0 := by omega
    subst this
    exact .inl ⟨rfl, rfl⟩
  · injection hv with e1 e2 e3
    subst e1 e3
    exact .inr ⟨g, c, cur, rfl, hb, hg, by omega, h2, h3, by rw [← h4, List.take_take]; congr 1; omega⟩
theorem compactT_any (base : Nat) (A : Option Addr) (c : Nat) (ss : List (List UInt8)) (w : World) (hown : w.ownsRow base 9 1 (.slice A ss.length c) ss.length (ss.map stv)) (hss : ss.length ≤ 1099511627776) :
    Calls Tryz.prog 134 #[.slice A ss.length c] w fun e w' => e = .returned (.slice A (compact ss).length c) ∧ w'.ownsRow base 9 1 (.slice A (compact ss).length c) (compact ss).length ((compact ss).map stv) ∧ w.grownBy w' (ablk A) := by
  rcases hown.2 with ⟨hnil, h0⟩ | ⟨g, cap, cur, hv, hbase, hb, h1, h2, h3, h4⟩
  · obtain ⟨rfl, hl0, rfl⟩ : A = none ∧ ss.length = 0 ∧ c = 0 := by simpa using hnil
    obtain rfl : ss = [] := List.eq_nil_of_length_eq_zero hl0
    refine (Tryz.slices_Compact_string_empty none 0 w).mono ?_
    rintro e w' ⟨rfl, rfl⟩
    exact ⟨rfl, by simpa [compact, compactUpTo] using hown, World.grownBy.refl _ _⟩
  · obtain ⟨rfl, rfl⟩ : A = some ⟨g, 0, none⟩ ∧ c = cap := by simpa using hv
    have hH : Holds encStr w g 0 ss.toArray := holds_of_blockG hb (by rw [Nat.mul_one] at h4; exact h4)
    refine (Tryz.slices_Compact_string g 0 c ss w hH (by omega) h1).mono ?_
    rintro e w' ⟨rfl, n, rfl⟩
    have hle := compact_length_le ss
    have hl2 : (compact ss ++ List.replicate (ss.length - (compact ss).length) ([] : List UInt8)).length = ss.length := by simp; omega
    refine ⟨rfl, ?_, ?_⟩
    · have := ownsRow_sortedG (enc := encStr) (n := n) (os := #[]) (ts := compact ss ++ List.replicate (ss.length - (compact ss).length) ([] : List UInt8)) (ss := ss) hl2 hbase hb h1 h2 h3
      have h5 := own_cut this (compact ss).length hle (by simp)
      rw [List.map_append, List.take_append_of_le_length (by simp), List.take_of_length_le (by simp)] at h5
      exact h5
    · exact grownBy_sortedG (os := #[]) _
end Go.Proofs.YtdnljmncdbcgeaaGreat

/- tree.Diff: the walk. -/
namespace Go.Proofs.YtdnljmncdbcgeaaGreat
open Go.RowKit Go.Lib

theorem union_keys (ps : List (List UInt8)) : SortR (unionR ps) ∧ ∀ k, k ∈ keysR (unionR ps) ↔ k ∈ ps := by
  have : ∀ (qs : List (List UInt8)) (T : List (List UInt8 × LV)), SortR T → SortR (qs.foldl (fun T p => putR T p dirV) T) ∧ ∀ k, k ∈ keysR (qs.foldl (fun T p => putR T p dirV) T) ↔ (k ∈ keysR T ∨ k ∈ qs) := by
    intro qs
    induction qs with
    | nil => intro T h; exact ⟨h, by simp⟩
    | cons q qs ih =>
      intro T h
      obtain ⟨h1, h2⟩ := ih (putR T q dirV) (h.put q dirV)
      refine ⟨h1, fun k => ?_⟩
      rw [List.foldl_cons, h2, ← getR_isSome, getR_put]
      by_cases e : k = q
      · rw [if_pos e]; simp [e]
      · rw [if_neg e, getR_isSome]; simp [e]
  have := this ps [] sortR_nil
  exact ⟨this.1, fun k => by rw [show unionR ps = ps.foldl (fun T p => putR T p dirV) [] from rfl, this.2 k]; simp [keysR]⟩
theorem diff_eq (S T : List (List UInt8 × LP)) : compact (((keysR S).filter (diffB S T) ++ (keysR T).filter (diffB S T)).mergeSort leT) = diffS S T := by
  obtain ⟨h1, h2⟩ := union_keys (keysR S ++ keysR T)
  refine compact_union _ _ h1 _ fun k => ?_
  rw [h2, List.mem_append, List.mem_append, List.mem_filter, List.mem_filter]
  constructor
  · rintro (⟨a, b⟩ | ⟨a, b⟩)
    · exact ⟨.inl a, b⟩
    · exact ⟨.inr a, b⟩
  · rintro ⟨a | a, b⟩
    · exact .inl ⟨a, b⟩
    · exact .inr ⟨a, b⟩
theorem pathsP_any (hS : SortsT) (v : Option Addr) (L : List (List UInt8 × LV)) (f : List UInt8 → Bool) (xa xb : Nat) (w : World) (h : TreeP w v L)
    (hc : ∀ W, Below w.heap.size w W → ∀ p ∈ keysR L, Calls Tryz.prog 132 #[.string ⟨⟨p⟩⟩, .pointer (some ⟨xa, 0, none⟩), .pointer (some ⟨xb, 0, none⟩)] W fun e w' => e = .returned (.bool (f p)) ∧ Below W.heap.size W w') :
    Calls Tryz.prog 133 #[.pointer v, .func (.func 132) #[] #[.pointer (some ⟨xa, 0, none⟩), .pointer (some ⟨xb, 0, none⟩)]] w fun e w' => ∃ (A : Option Addr) (c : Nat) (l : List (List UInt8)), e = .returned (.slice A l.length c) ∧ Hid (l = (keysR L).filter f) ∧ w'.ownsRow w.heap.size 9 1 (.slice A l.length c) l.length (l.map stv) ∧ Below w.heap.size w w' := by
  rcases h with ⟨rfl, rfl⟩ | ⟨tb, mo, rfl, ht⟩
  · refine (paths_nil _ w).mono ?_
    rintro e w' ⟨rfl, rfl⟩
    exact ⟨none, 0, [], rfl, rfl, World.ownsRow_nil _ _ _ _, Below.refl _ _⟩
  · exact pathsDiff_any hS tb mo L f xa xb w ht hc
set_option maxRecDepth 100000 in
set_option maxHeartbeats 1000000 in
theorem treeDiff_any (hS : SortsT) (va vb : Option Addr) (L M : List (List UInt8 × LV)) (w : World) (ha : TreeP w va L) (hb : TreeP w vb M) :
    Calls Tryz.prog 111 #[.pointer va, .pointer vb] w fun e w' => TxtOwn w' w.heap.size e (diffS (plainL L) (plainL M)) ∧ Below w.heap.size w w' := by
  obtain ⟨D, hD⟩ : ∃ D, D = diffS (plainL L) (plainL M) := ⟨_, rfl⟩
  rw [← hD]
  have HD := Lib.hid hD
  have hkL : ∀ q ∈ keysR L, q.length ≤ 96 := fun q hq => by
    obtain ⟨x, hx, rfl⟩ := List.mem_map.1 hq
    exact goodB_len (ha.ok.good (x.1, x.2.p) (List.mem_map.2 ⟨x, hx, rfl⟩)).1
  have hkM : ∀ q ∈ keysR M, q.length ≤ 96 := fun q hq => by
    obtain ⟨x, hx, rfl⟩ := List.mem_map.1 hq
    exact goodB_len (hb.ok.good (x.1, x.2.p) (List.mem_map.2 ⟨x, hx, rfl⟩)).1
  have hlL : L.length ≤ 128 := by have := ha.ok.len; rwa [plain_len] at this
  have hlM : M.length ≤ 128 := by have := hb.ok.len; rwa [plain_len] at this
  have hb0 : Below w.heap.size w ((w.alloc (.cells #[.pointer va] 80)).alloc (.cells #[.pointer vb] 80)) := (by repeat (first | exact Below.refl _ _ | refine Below.alloc ?_ (by simp) _ | refine Below.setCell ?_ (by simp) _ | refine Below.drew ?_))
  have xa : Blk ((w.alloc (.cells #[.pointer va] 80)).alloc (.cells #[.pointer vb] 80)) w.heap.size 80 #[.pointer va] := (Blk.new w _ _).alloc _
  have xb : Blk ((w.alloc (.cells #[.pointer va] 80)).alloc (.cells #[.pointer vb] 80)) (w.heap.size + 1) 80 #[.pointer vb] := by
    have := Blk.new (w.alloc (.cells #[.pointer va] 80)) 80 #[.pointer vb]
    simpa using this
  have ha0 := Lib.hid (ha.below hb0)
  have hb1 := Lib.hid (hb.below hb0)
  have HB0 := Lib.hid hb0
  clear ha hb hD
  go_enter Tryz.func111, Tryz.ntmps111
  go_wp2_with fail
  generalize ((w.alloc (.cells #[.pointer va] 80)).alloc (.cells #[.pointer vb] 80)) = W0 at *
  have HC : Hid (∀ W, Below W0.heap.size W0 W → ∀ q, q.length ≤ 96 → Calls Tryz.prog 132 #[.string ⟨⟨q⟩⟩, .pointer (some ⟨w.heap.size, 0, none⟩), .pointer (some ⟨w.heap.size + 1, 0, none⟩)] W fun e w' => e = .returned (.bool (diffB (plainL L) (plainL M) q)) ∧ Below W.heap.size W w') := fun W hW q hq =>
    diff1_any va vb L M q w.heap.size (w.heap.size + 1) W (ha0.out.below hW) (hb1.out.below hW) (by omega) (xa.below hW) (xb.below hW)
  have hs0 := HB0.out.size
  refine wp_region_p [(0, true), (1, true), (3, true), (4, true), (2, false), (5, false)] (fun W => Below W0.heap.size W0 W) (by kernel_rfl) (by kernel_rfl) ?_
  simp only [List.map_cons, List.map_nil, List.filterMap_cons, List.filterMap_nil, List.getElem?_cons_zero, List.getElem?_cons_succ, List.length_cons, List.length_nil, Nat.zero_add, Nat.reduceAdd, List.drop_succ_cons, List.drop_zero]
  refine mx_val (by kernel_rfl) ⟨_, (by (intro w' hC; (have q := (xa.below hC).cell 0; simp at q); clear hC; (try go_simp); (try with_reducible rfl); done)), _, (by (simp only [Act.put, List.setIfInBounds_toArray, List.set_cons_zero, List.set_cons_succ]; rfl)), ?_⟩
  refine mx_move _ (by kernel_rfl) rfl ⟨_, (by ((try simp [go_sem]); (try rfl); done)), _, (by (simp only [Act.put, List.setIfInBounds_toArray, List.set_cons_zero, List.set_cons_succ]; rfl)), ?_⟩
  refine mx_val (by kernel_rfl) ⟨_, (by (intro w' hC; (have q := (xb.below hC).cell 0; simp at q); clear hC; (try go_simp); (try with_reducible rfl); done)), _, (by (simp only [Act.put, List.setIfInBounds_toArray, List.set_cons_zero, List.set_cons_succ]; rfl)), ?_⟩
  refine mx_move _ (by kernel_rfl) rfl ⟨_, (by ((try simp [go_sem]); (try rfl); done)), _, (by (simp only [Act.put, List.setIfInBounds_toArray, List.set_cons_zero, List.set_cons_succ]; rfl)), ?_⟩
  refine mx_call ((Below.refl _ _).drew) (by kernel_rfl) ?_ (pathsP_any hS va L (diffB (plainL L) (plainL M)) w.heap.size (w.heap.size + 1) W0.drew (ha0.out.below (Below.refl _ _).drew) (fun W hW q hq => HC.out W ((Below.refl _ _).drew.trans (hW.mono (Nat.le_refl _))) q (hkL q hq))) ?_
  · (go_simp; done)
  rintro e w2 ⟨A1, c1, l1, rfl, hl1, ho1, hb2⟩
  have hlow2 : Below W0.heap.size W0 w2 := (Below.refl _ _).drew.trans (hb2.mono (Nat.le_refl _))
  refine ⟨_, rfl, _, (by (simp only [Act.put, List.setIfInBounds_toArray, List.set_cons_zero, List.set_cons_succ]; rfl)), ?_⟩
  refine mx_call (hlow2) (by kernel_rfl) ?_ (pathsP_any hS vb M (diffB (plainL L) (plainL M)) w.heap.size (w.heap.size + 1) w2 (hb1.out.below hlow2) (fun W hW q hq => HC.out W (hlow2.trans (hW.mono hlow2.size)) q (hkM q hq))) ?_
  · (go_simp; done)
  rintro e w3 ⟨A2, c2, l2, rfl, hl2, ho2, hb3⟩
  have hlow3 : Below W0.heap.size W0 w3 := hlow2.trans (hb3.mono hlow2.size)
  refine ⟨_, rfl, _, (by (simp only [Act.put, List.setIfInBounds_toArray, List.set_cons_zero, List.set_cons_succ]; rfl)), ?_⟩
  refine mx_end hlow3 ?_
  have hw3 := HB0.out.trans (hlow3.mono hs0)
  have hL1 : l1.length ≤ 128 := by rw [hl1.out]; refine Nat.le_trans (List.length_filter_le _ _) ?_; rw [keys_len]; exact hlL
  have hL2 : l2.length ≤ 128 := by rw [hl2.out]; refine Nat.le_trans (List.length_filter_le _ _) ?_; rw [keys_len]; exact hlM
  have hx1 : ∀ x ∈ l1 ++ l2, x.length ≤ 140737488355328 := by
    intro x hx
    have : x.length ≤ 96 := by
      rcases List.mem_append.1 hx with hx | hx
      · rw [hl1.out] at hx; exact hkL x (List.mem_filter.1 hx).1
      · rw [hl2.out] at hx; exact hkM x (List.mem_filter.1 hx).1
    omega
  have HO1 := Lib.hid (own_base (base' := w.heap.size) (own_below ho1 hb3) (fun g hg => Nat.le_trans hs0 (ho1.lt g hg).1))
  have HR2 : Hid (Rd w3 (fun _ => True) 1 A2 l2.length (l2.map stv)) := Lib.hid (Rd.of_own ho2 (fun _ _ _ => trivial))
  have HE : Hid (D = compact ((l1 ++ l2).mergeSort leT)) := by
    show _ = _
    rw [HD.out, ← diff_eq, hl1.out, hl2.out, keys_plain, keys_plain]
  obtain ⟨i0, hi0, hz0, hz1, hz2⟩ := info_parts str_info
  clear ho1 ho2 hl1 hl2 hb2 hb3 hlow2 hlow3 xa xb ha0 hb1 HB0 HC HD hkL hkM
  go_wp2_with (at_builtin; refine wpList_append_any _ rfl (.tmp 10) (.tmp 13) 54 rfl w.heap.size 9 i0 _ 1 16 Tryz.underlying54 hi0 hz0 hz1 hz2 rfl (by omega) (.slice A1 l1.length c1) l1.length (l1.map stv) rfl HO1.out _ _ l2.length c2 (l2.map stv) rfl HR2.out (st_one _) (by simp only [maxLen]; omega) (by omega) hw3.size ?_; intro v4 w4 hown4 hg4 hat4; obtain ⟨A4, c4, rfl, _⟩ := own_form hown4)
  have hw4 : Below w.heap.size w w4 := hw3.trans (grown_below hg4 hw3.size (fun g hg => (HO1.out.lt _ hg).1))
  have hown5 : w4.ownsRow w.heap.size 9 1 (.slice A4 (l1 ++ l2).length c4) (l1 ++ l2).length ((l1 ++ l2).map stv) := by
    rw [List.length_append, List.map_append]
    exact hown4
  have hl5 : (l1 ++ l2).length ≤ 1099511627776 := by rw [List.length_append]; omega
  have e5 : l1.length + l2.length = (l1 ++ l2).length := List.length_append.symm
  rw [e5]
  clear hown4 hg4 hat4 e5 HO1 HR2 hw3
  generalize l1 ++ l2 = ss at *
  refine (hS w.heap.size A4 c4 ss w4 hown5 hx1 hl5).mono ?_
  rintro e w5 ⟨rfl, hown6, hg6⟩
  have hblk : ∀ g, ablk A4 = some g → w.heap.size ≤ g := fun g hg => by
    have := hown5.lt
    obtain ⟨A', c', e, _, _, h6, _⟩ := own_form hown5
    injection e with e _ _
    subst e
    exact (h6 g hg).1
  have hw5 : Below w.heap.size w w5 := hw4.trans (grown_below hg6 hw4.size hblk)
  have hms : (ss.mergeSort leT).length = ss.length := List.length_mergeSort _
  have HOS : Hid (w5.ownsRow w.heap.size 9 1 (.slice A4 (ss.mergeSort leT).length c4) (ss.mergeSort leT).length ((ss.mergeSort leT).map stv)) := by rw [hms]; exact hown6
  have hcon := compactT_any w.heap.size A4 c4 (ss.mergeSort leT) w5 HOS.out (by rw [hms]; exact hl5)
  rw [hms, ← HE.out] at hcon
  have HK := Lib.hid hcon
  clear hcon HOS hms hown6 hg6 hown5
  go_wp2_with fail
  refine HK.out.mono ?_
  rintro e w6 ⟨rfl, hown7, hg7⟩
  have hw6 : Below w.heap.size w w6 := hw5.trans (grown_below hg7 hw5.size hblk)
  go_wp2_with fail
  go_ret
  exact ⟨⟨A4, c4, D, rfl, rfl, hown7⟩, hw6⟩
end Go.Proofs.YtdnljmncdbcgeaaGreat

/- tree: Same, and a tree that is none. -/
namespace Go.Proofs.YtdnljmncdbcgeaaGreat
open Go.RowKit

theorem treeClone_nil (w : World) : Calls Tryz.prog 113 #[.pointer none] w fun e w' => e = .returned (.pointer none) ∧ Below w.heap.size w w' := by
  go_enter Tryz.func113, Tryz.ntmps113
  go_wp2_with fail
  go_ret
  exact ⟨rfl, Below.refl _ _⟩
theorem treeBelow_nil (p : List UInt8) (w : World) : Calls Tryz.prog 115 #[.pointer none, .string ⟨⟨p⟩⟩] w fun e w' => e = .returned (.slice none 0 0) ∧ Below w.heap.size w w' := by
  go_enter Tryz.func115, Tryz.ntmps115
  go_wp2_with fail
  refine (paths_nil _ _).mono ?_
  rintro e w1 ⟨rfl, rfl⟩
  go_wp2_with fail
  go_ret
  exact ⟨rfl, (by repeat (first | exact Below.refl _ _ | refine Below.alloc ?_ (by simp) _ | refine Below.setCell ?_ (by simp) _ | refine Below.drew ?_))⟩
theorem treeGet_nil (p : List UInt8) (w : World) : Calls Tryz.prog 112 #[.pointer none, .string ⟨⟨p⟩⟩] w fun e w' => LeafOwn w' w.heap.size e none ∧ Below w.heap.size w w' := by
  refine (treeGet_ofP none p w 0 none 0 [] (fun _ => False) Rd.nil (by simp) (fun W _ => treeget_nil p W)).mono ?_
  rintro e w' ⟨A', c', l', rfl, h1, h2, h3⟩
  exact ⟨⟨A', c', l', rfl, h1, h2⟩, h3⟩
end Go.Proofs.YtdnljmncdbcgeaaGreat

/- tree.Tree.Clone, New without items. -/
namespace Go.Proofs.YtdnljmncdbcgeaaGreat
open Go.RowKit Go.Maps Go.Shelf

theorem MapAt.clone {b : Nat} {L : List (List UInt8 × Value)} {w : World} (h : MapAt w Tryz.prog 9 b L) :
    Calls Tryz.prog 135 #[.map (some b)] w fun e w' => e = .returned (.map (some w.heap.size)) ∧ MapAt w' Tryz.prog 9 w.heap.size L ∧ Below w.heap.size w w' := by
  obtain ⟨D, h1, h2⟩ := h.own
  have := AnyW.maps_Clone_owns Tryz.cloneM 9 heldR b L.length D w h1
  change Calls Tryz.prog 135 _ _ _ at this
  refine this.mono ?_
  rintro e w' ⟨rfl, k1, k2, k3⟩
  exact ⟨rfl, ⟨h.sort, ⟨D, k1, h2⟩, h.len⟩, k3⟩
theorem mapClone_nil (w : World) : Calls Tryz.prog 135 #[.map none] w fun e w' => e = .returned (.map none) ∧ w' = w := AnyW.maps_Clone_nil Tryz.cloneM w
/-- a clone: the same, at blocks of its own -/
theorem treeClone_any (tb : Nat) (mo : Option Nat) (L : List (List UInt8 × LV)) (w : World) (h : TreeAt w tb mo L) :
    Calls Tryz.prog 113 #[.pointer (some ⟨tb, 0, none⟩)] w fun e w' => ∃ (cb : Nat) (mo' : Option Nat), e = .returned (.pointer (some ⟨cb, 0, none⟩)) ∧ w.heap.size ≤ cb ∧ (∀ m, mo' = some m → w.heap.size ≤ m) ∧ TreeAt w' cb mo' L ∧ Below w.heap.size w w' := by
  have HT := Lib.hid h
  have c0 := h.c0
  rcases h.map with ⟨rfl, rfl⟩ | ⟨mb, rfl, hm⟩
  · clear h
    go_enter Tryz.func113, Tryz.ntmps113
    go_wp2_with fail
    refine (mapClone_nil _).mono ?_
    rintro e w1 ⟨rfl, rfl⟩
    go_wp2_with fail
    go_ret
    exact ⟨_, none, rfl, Nat.le_refl _, by simp, TreeAt.new _, (by repeat (first | exact Below.refl _ _ | refine Below.alloc ?_ (by simp) _ | refine Below.setCell ?_ (by simp) _ | refine Below.drew ?_))⟩
  · clear h
    have HM := Lib.hid hm
    clear hm
    go_enter Tryz.func113, Tryz.ntmps113
    go_wp2_with fail
    refine HM.out.clone.mono ?_
    rintro e w1 ⟨rfl, hm1, hb1⟩
    have hT1 := HT.out.below hb1
    have hs1 := hb1.size
    have hlt := hm1.lt
    have ba : Below w.heap.size w (w1.alloc (.cells #[.map (some w.heap.size)] 88)) := hb1.alloc hs1 _
    have bb : Below w1.heap.size w1 (w1.alloc (.cells #[.map (some w.heap.size)] 88)) := (Below.refl _ w1).alloc (Nat.le_refl _) _
    have HN : Hid (TreeAt (w1.alloc (.cells #[.map (some w.heap.size)] 88)) w1.heap.size (some w.heap.size) L) := by
      refine ⟨Blk.new _ _ _, .inr ⟨_, rfl, hm1.below bb⟩, fun x hx => ?_, HT.out.plain⟩
      exact OwB.below (HT.out.own x hx) ba
    clear hT1 hm1
    go_wp2_with fail
    go_ret
    exact ⟨_, some w.heap.size, rfl, hs1, fun m e => by injection e with e; omega, HN.out, ba⟩
end Go.Proofs.YtdnljmncdbcgeaaGreat

/- Drawn regions with two operations that make memory, neither of which waits for the other: both orders, and one continuation. No program. -/
namespace Go.Proofs.YtdnljmncdbcgeaaGreat
open Go.RowKit

section
variable {P : Program} {ops : Array Oper} {md : Region.Mode} {C : World → Prop}
def mix2 (md : Region.Mode) (ops : Array Oper) (g m i j : Nat) (ks2 : List (Nat × Bool)) : List Nat → Array Bool → Bool
  | [], listed => decide (i < m) && decide (j < m) && decide (Region.ready md ops listed = [i, j]) && decide (Region.ready md ops (listed.setIfInBounds i true) = [j]) && decide (Region.ready md ops (listed.setIfInBounds j true) = [i]) &&
      mixP md ops g m ks2 ((listed.setIfInBounds i true).setIfInBounds j true) && mixP md ops g m ks2 ((listed.setIfInBounds j true).setIfInBounds i true)
  | k :: ks, listed => decide (k < m) && (Region.ready md ops listed).contains k && Region.free md ops listed k && mix2 md ops g m i j ks2 ks (listed.setIfInBounds k true)
theorem alone_step {m g i j : Nat} {Lq : Act → World → Prop} (hsel : ∀ (j : Nat) (o : Oper) cs b, ops[j]? = some o → o.op ≠ .select cs b) (hT : TailWaitsB md ops m)
    {oi oj : Oper} (hi : ops[i]? = some oi) (hj : ops[j]? = some oj) {listed : Array Bool} {a : Act} {w : World} (inv : HeadInv md ops m listed) (him : i < m) (hjm : j < m) (hri : i ∈ Region.ready md ops listed)
    (hr : Region.ready md ops (listed.setIfInBounds i true) = [j]) {ks2 : List (Nat × Bool)} {l2 : List Oper} (hl2 : l2.map some = ks2.map (fun x => ops[x.1]?)) (hs : mixP md ops g m ks2 ((listed.setIfInBounds i true).setIfInBounds j true) = true)
    (h : wpMix P ops C Lq (false :: false :: ks2.map (·.2)) (oi :: oj :: l2) a w) : i < m ∧ wpOp P ops Qz i (wpAnyT P md ops C m (fun listed' a' w' => Region.seqB md ops g m listed' = true ∧ Lq a' w') (l2.length + 1) (listed.setIfInBounds i true)) a w := by
  refine ⟨him, ?_⟩
  have rec_ : ∀ a' w', wpMix P ops C Lq (false :: ks2.map (·.2)) (oj :: l2) a' w' → wpAnyT P md ops C m (fun listed' a' w' => Region.seqB md ops g m listed' = true ∧ Lq a' w') (l2.length + 1) (listed.setIfInBounds i true) a' w' := fun a' w' h2 =>
    mix_perm hsel hT ((j, false) :: ks2) (oj :: l2) _ a' w' (by simp [hj, hl2]) (inv.set hri him) (by simp [mixP, hjm, hr, hs]) h2
  obtain ⟨_, h'⟩ := h
  unfold wpOp
  simp only [hi]
  rcases h' with ⟨hw, h'⟩ | ⟨hw, h'⟩
  · simp only [hw, if_true]
    exact .inl (Oper.wp_mono rec_ h')
  · simp only [hw, Bool.false_eq_true, if_false]
    exact rec_ _ _ h'
theorem mix_two {m g i j : Nat} {Lq : Act → World → Prop} (hsel : ∀ (j : Nat) (o : Oper) cs b, ops[j]? = some o → o.op ≠ .select cs b) (hT : TailWaitsB md ops m)
    {oi oj : Oper} (hi : ops[i]? = some oi) (hj : ops[j]? = some oj) {ks2 : List (Nat × Bool)} {l2 : List Oper} (hl2 : l2.map some = ks2.map (fun x => ops[x.1]?)) :
    ∀ (ks : List Nat) (l : List Oper) (listed : Array Bool) (a : Act) (w : World), l.map some = ks.map (fun x => ops[x]?) → HeadInv md ops m listed →
    mix2 md ops g m i j ks2 ks listed = true → wpMix P ops C (fun a' w' => MixW P ops C Lq (false :: false :: ks2.map (·.2)) (oi :: oj :: l2) a' w' ∧ MixW P ops C Lq (false :: false :: ks2.map (·.2)) (oj :: oi :: l2) a' w') (ks.map fun _ => true) l a w →
    wpAnyT P md ops C m (fun listed' a' w' => Region.seqB md ops g m listed' = true ∧ Lq a' w') (l.length + (l2.length + 2)) listed a w
  | [], [], listed, a, w, _, inv, hB, h => by
    simp only [mix2, Bool.and_eq_true, decide_eq_true_eq] at hB
    obtain ⟨⟨⟨⟨⟨⟨him, hjm⟩, hr⟩, hri⟩, hrj⟩, hs1⟩, hs2⟩ := hB
    obtain ⟨hc, h1, h2⟩ := h
    rw [List.length_nil, Nat.zero_add]
    refine ⟨hc, fun h => (by rw [hr] at h; cases h), fun x hx => ?_⟩
    have hx' := hx
    rw [hr] at hx
    rcases List.mem_cons.1 hx with rfl | hx
    · exact alone_step hsel hT hi hj inv him hjm hx' hri hl2 hs1 h1.go
    · obtain rfl := List.mem_singleton.1 hx
      exact alone_step hsel hT hj hi inv hjm him hx' hrj hl2 hs2 h2.go
  | k :: ks, o :: l, listed, a, w, hl, inv, hB, h => by
    simp only [List.map_cons, List.cons.injEq] at hl
    have h0 : ops[k]? = some o := hl.1.symm
    simp only [mix2, Bool.and_eq_true, decide_eq_true_eq] at hB
    obtain ⟨⟨⟨hkm, hr⟩, hf⟩, hB'⟩ := hB
    have hr' : k ∈ Region.ready md ops listed := by simpa using hr
    obtain ⟨v, hy, h'⟩ := h
    have := wpAnyT_first h0 hkm hsel hT _ listed a w inv (Region.free_spec h0 hf) hr' hy (mix_two hsel hT hi hj hl2 ks l _ _ w hl.2 (inv.set hr' hkm) hB' h')
    rwa [show l.length + (l2.length + 2) + 1 = (o :: l).length + (l2.length + 2) by simp only [List.length_cons]; omega] at this
  | [], _ :: _, _, _, _, hl, _, _, _ => by simp at hl
  | _ :: _, [], _, _, _, hl, _, _, _ => by simp at hl
theorem filterMap_someN (l : List Oper) : ∀ (ks : List Nat), ks.all (fun x => decide (x < l.length)) = true → (ks.filterMap fun x => l[x]?).map some = ks.map (fun x => l.toArray[x]?)
  | [], _ => rfl
  | x :: ks, h => by
    simp only [List.all_cons, Bool.and_eq_true, decide_eq_true_eq] at h
    have ih := filterMap_someN l ks h.2
    rw [List.filterMap_cons, List.getElem?_eq_getElem h.1]
    simp only [List.map_cons]
    rw [ih, show l.toArray[x]? = some l[x] by simp [h.1]]
/-- operations that tell, in an order of ours; two that are alone, in either order; more, by kinds; the rest one behind the other -/
theorem wp_region_2 {id : Nat} {Q : Exit → Act → World → Prop} {a : Act} {w : World} {l : List Oper} (ks : List Nat) (i j : Nat) (ks2 : List (Nat × Bool)) (n : Nat) (C : World → Prop) {oi oj : Oper} (hi : l.toArray[i]? = some oi) (hj : l.toArray[j]? = some oj) (hn : n = ks.length + (ks2.length + 2)) (hm : P.follows .mixedOrders = true)
    (hB : (ks.all (fun x => decide (x < l.length)) && ks2.all (fun x => decide (x.1 < l.length)) && tailOkB l.toArray n && mix2 .any l.toArray (l.toArray.size - n) n i j ks2 ks (Array.replicate l.toArray.size false)) = true)
    (h : MixW P l.toArray C (fun a' w' => MixW P l.toArray C (fun a' w' => wpList P l.toArray Q (l.drop n) a' w') (false :: false :: ks2.map (·.2)) (oi :: oj :: ks2.filterMap fun x => l[x.1]?) a' w' ∧ MixW P l.toArray C (fun a' w' => wpList P l.toArray Q (l.drop n) a' w') (false :: false :: ks2.map (·.2)) (oj :: oi :: ks2.filterMap fun x => l[x.1]?) a' w') (ks.map fun _ => true) (ks.filterMap fun x => l[x]?) a w.drew) : (Code.region id l.toArray true).wp P Q a w := by
  rw [Bool.and_eq_true, Bool.and_eq_true, Bool.and_eq_true] at hB
  obtain ⟨⟨⟨hall, hall2⟩, hok⟩, hlex⟩ := hB
  obtain ⟨hsel, hnl, hT⟩ := tailOkB_spec hok
  have hfm := filterMap_someN l ks hall
  have hfm2 := filterMap_some l ks2 hall2
  have hfl : (ks.filterMap fun x => l[x]?).length = ks.length := by simpa using congrArg List.length hfm
  have hfl2 : (ks2.filterMap fun x => l[x.1]?).length = ks2.length := by simpa using congrArg List.length hfm2
  have hdl : (l.drop n).length = l.toArray.size - n := by simp
  have H := mix_two (P := P) (md := .any) (m := n) (g := l.toArray.size - n) (Region.noSelect_spec hsel) hT hi hj hfm2 ks _ _ a w.drew hfm (inv_new _) hlex h.go
  refine wp_region_any hm ?_
  have := wpAny_of_T (Q := Q) (g := l.toArray.size - n) (fun listed a' w' hL => by
    have := wpAny_of_seq (md := .any) (Q' := Q) (l.drop n) n listed a' w' (fun j => by simp [List.getElem?_drop]) (by rw [hdl]; exact hL.1) hL.2
    rwa [hdl] at this) _ _ _ _ H
  rw [hfl, hfl2, show ks.length + (ks2.length + 2) + (l.toArray.size - n) = l.toArray.size by simp at hnl ⊢; omega] at this
  exact this
/-- the same, with the operations picked out of the region's row -/
theorem wp_region_two {id : Nat} {Q : Exit → Act → World → Prop} {a : Act} {w : World} {l : List Oper} (ks : List Nat) (i j : Nat) (ks2 : List (Nat × Bool)) (n : Nat) (C : World → Prop) (hm : P.follows .mixedOrders = true) (hn : n = ks.length + (ks2.length + 2))
    (hB : (decide (i < l.length) && decide (j < l.length) && (ks.all (fun x => decide (x < l.length)) && ks2.all (fun x => decide (x.1 < l.length)) && tailOkB l.toArray n && mix2 .any l.toArray (l.toArray.size - n) n i j ks2 ks (Array.replicate l.toArray.size false))) = true)
    (h : MixW P l.toArray C (fun a' w' => MixW P l.toArray C (fun a' w' => wpList P l.toArray Q (l.drop n) a' w') (false :: false :: ks2.map (·.2)) (([i, j] ++ ks2.map (·.1)).filterMap fun x => l[x]?) a' w' ∧ MixW P l.toArray C (fun a' w' => wpList P l.toArray Q (l.drop n) a' w') (false :: false :: ks2.map (·.2)) (([j, i] ++ ks2.map (·.1)).filterMap fun x => l[x]?) a' w') (ks.map fun _ => true) (ks.filterMap fun x => l[x]?) a w.drew) : (Code.region id l.toArray true).wp P Q a w := by
  rw [Bool.and_eq_true, Bool.and_eq_true, decide_eq_true_eq, decide_eq_true_eq] at hB
  obtain ⟨⟨hi, hj⟩, hB⟩ := hB
  refine wp_region_2 ks i j ks2 n C (oi := l[i]) (oj := l[j]) (by simp [hi]) (by simp [hj]) hn hm hB ?_
  have e : (ks2.map (·.1)).filterMap (fun x => l[x]?) = ks2.filterMap fun x => l[x.1]? := by rw [List.filterMap_map]; rfl
  simpa [List.filterMap_cons, hi, hj, e] using h
theorem wpMix_mono {E E' : Act → World → Prop} (hh : ∀ a' w', E a' w' → E' a' w') : ∀ (ks : List Bool) (l : List Oper) (a : Act) (w : World), wpMix P ops C E ks l a w → wpMix P ops C E' ks l a w
  | [], [], _, _, h => ⟨h.1, hh _ _ h.2⟩
  | true :: ks, _ :: l, _, _, ⟨v, hy, h⟩ => ⟨v, hy, wpMix_mono hh ks l _ _ h⟩
  | false :: ks, _ :: l, _, _, h => ⟨h.1, h.2.imp (fun h => ⟨h.1, Oper.wp_mono (fun a' w' => wpMix_mono hh ks l a' w') h.2⟩) (fun h => ⟨h.1, wpMix_mono hh ks l _ _ h.2⟩)⟩
  | [], _ :: _, _, _, h => h.elim
  | true :: _, [], _, _, h => h.elim
  | false :: _, [], _, _, h => h.elim
theorem wpMix_two {E : Act → World → Prop} {ks : List Bool} {l : List Oper} {o o' : Oper} {a : Act} {w : World} (h : wpMix P ops C (fun a' w' => wpMix P ops C E ks l a' w') [false, false] [o, o'] a w) : wpMix P ops C E (false :: false :: ks) (o :: o' :: l) a w := by
  have m1 : ∀ a' w', wpMix P ops C (fun a' w' => wpMix P ops C E ks l a' w') [false] [o'] a' w' → wpMix P ops C E (false :: ks) (o' :: l) a' w' := fun a' w' h => ⟨h.1, h.2.imp (fun h => ⟨h.1, Oper.wp_mono (fun _ _ h => h.2) h.2⟩) (fun h => ⟨h.1, h.2.2⟩)⟩
  exact ⟨h.1, h.2.imp (fun h => ⟨h.1, Oper.wp_mono m1 h.2⟩) (fun h => ⟨h.1, m1 _ _ h.2⟩)⟩
/-- both orders end in one: J tells what both have made, and the world -/
theorem two_join {E : Act → World → Prop} {ks : List Bool} {l : List Oper} {oi oj : Oper} {a : Act} {w : World} (J : Value → Value → World → Prop) (hc : ∀ vi vj, (a.put oj.dst vj).put oi.dst vi = (a.put oi.dst vi).put oj.dst vj)
    (h1 : MixW P ops C (fun a' w' => ∃ vi vj, a' = (a.put oi.dst vi).put oj.dst vj ∧ J vi vj w') [false, false] [oi, oj] a w)
    (h2 : MixW P ops C (fun a' w' => ∃ vi vj, a' = (a.put oj.dst vj).put oi.dst vi ∧ J vi vj w') [false, false] [oj, oi] a w)
    (hE : ∀ vi vj w', J vi vj w' → MixW P ops C E ks l ((a.put oi.dst vi).put oj.dst vj) w') : MixW P ops C E (false :: false :: ks) (oi :: oj :: l) a w ∧ MixW P ops C E (false :: false :: ks) (oj :: oi :: l) a w := by
  refine ⟨⟨wpMix_two (wpMix_mono ?_ _ _ _ _ h1.go)⟩, ⟨wpMix_two (wpMix_mono ?_ _ _ _ _ h2.go)⟩⟩
  · rintro a' w' ⟨vi, vj, rfl, hj⟩
    exact (hE _ _ _ hj).go
  · rintro a' w' ⟨vi, vj, rfl, hj⟩
    rw [hc]
    exact (hE _ _ _ hj).go
/-- alone, by its own law -/
theorem mx_wp {E : Act → World → Prop} {ks : List Bool} {o : Oper} {rest : List Oper} {a : Act} {w : World} (hc : C w) (hw : Region.wanted o (yielded ops a.tmps) = true) (h : o.wp P a w (fun a' w' => MixW P ops C E ks rest a' w') Qz) : MixW P ops C E (false :: ks) (o :: rest) a w :=
  ⟨hc, .inl ⟨hw, Oper.wp_mono (fun _ _ h => h.go) h⟩⟩
end
end Go.Proofs.YtdnljmncdbcgeaaGreat

/- Drawn regions by a plan: operations that only tell, operations that are alone, and at forks either of two. No program. -/
namespace Go.Proofs.YtdnljmncdbcgeaaGreat
open Go.RowKit

inductive Plan where
  | done
  | tell (k : Nat) (p : Plan)
  | one (k : Nat) (p : Plan)
  | two (i : Nat) (p : Plan) (j : Nat) (q : Plan)
namespace Plan
def count : Plan → Nat
  | done => 0
  | tell _ p => p.count + 1
  | one _ p => p.count + 1
  | two _ p _ _ => p.count + 1
def ok (md : Region.Mode) (ops : Array Oper) (g m : Nat) : Plan → Array Bool → Bool
  | done, listed => Region.seqB md ops g m listed
  | tell k p, listed => decide (k < m) && (Region.ready md ops listed).contains k && Region.free md ops listed k && ok md ops g m p (listed.setIfInBounds k true)
  | one k p, listed => decide (k < m) && decide (Region.ready md ops listed = [k]) && ok md ops g m p (listed.setIfInBounds k true)
  | two i p j q, listed => decide (i < m) && decide (j < m) && decide (p.count = q.count) && decide (Region.ready md ops listed = [i, j]) && ok md ops g m p (listed.setIfInBounds i true) && ok md ops g m q (listed.setIfInBounds j true)
end Plan
section
variable {P : Program} {ops : Array Oper} {md : Region.Mode} {C : World → Prop}
/-- an operation that is alone -/
def aloneP (P : Program) (ops : Array Oper) (o : Oper) (K : Act → World → Prop) (a : Act) (w : World) : Prop :=
  (Region.wanted o (yielded ops a.tmps) = true ∧ o.wp P a w K Qz) ∨ (Region.wanted o (yielded ops a.tmps) = false ∧ K (a.put o.dst undef) w)
def wpPlan (P : Program) (ops : Array Oper) (C : World → Prop) (E : Act → World → Prop) : Plan → Act → World → Prop
  | .done, a, w => C w ∧ E a w
  | .tell k p, a, w => ∃ o v, ops[k]? = some o ∧ StC P ops C o v a ∧ wpPlan P ops C E p (a.put o.dst v) w
  | .one k p, a, w => C w ∧ ∃ o, ops[k]? = some o ∧ aloneP P ops o (wpPlan P ops C E p) a w
  | .two i p j q, a, w => C w ∧ (∃ o, ops[i]? = some o ∧ aloneP P ops o (wpPlan P ops C E p) a w) ∧ (∃ o, ops[j]? = some o ∧ aloneP P ops o (wpPlan P ops C E q) a w)
/-- nobody looks into it -/
structure PlanW (P : Program) (ops : Array Oper) (C : World → Prop) (E : Act → World → Prop) (p : Plan) (a : Act) (w : World) : Prop where
  go : wpPlan P ops C E p a w
theorem aloneP.wpOp {i : Nat} {o : Oper} {K K' : Act → World → Prop} {a : Act} {w : World} (hi : ops[i]? = some o) (hK : ∀ a' w', K a' w' → K' a' w') (h : aloneP P ops o K a w) : wpOp P ops Qz i K' a w := by
  unfold Go.wpOp
  simp only [hi]
  rcases h with ⟨hw, h⟩ | ⟨hw, h⟩
  · simp only [hw, if_true]
    exact .inl (Oper.wp_mono hK h)
  · simp only [hw, Bool.false_eq_true, if_false]
    exact hK _ _ h
theorem plan_any {m g : Nat} {Lq : Act → World → Prop} (hsel : ∀ (j : Nat) (o : Oper) cs b, ops[j]? = some o → o.op ≠ .select cs b) (hT : TailWaitsB md ops m) :
    ∀ (p : Plan) (listed : Array Bool) (a : Act) (w : World), HeadInv md ops m listed → p.ok md ops g m listed = true → wpPlan P ops C Lq p a w →
    wpAnyT P md ops C m (fun listed' a' w' => Region.seqB md ops g m listed' = true ∧ Lq a' w') p.count listed a w
  | .done, listed, a, w, _, hB, h => ⟨h.1, seqB_ready hB, hB, h.2⟩
  | .tell k p, listed, a, w, inv, hB, h => by
    simp only [Plan.ok, Bool.and_eq_true, decide_eq_true_eq] at hB
    obtain ⟨⟨⟨hkm, hr⟩, hf⟩, hB'⟩ := hB
    have hr' : k ∈ Region.ready md ops listed := by simpa using hr
    obtain ⟨o, v, h0, hy, h'⟩ := h
    exact wpAnyT_first h0 hkm hsel hT _ listed a w inv (Region.free_spec h0 hf) hr' hy (plan_any hsel hT p _ _ w (inv.set hr' hkm) hB' h')
  | .one k p, listed, a, w, inv, hB, h => by
    simp only [Plan.ok, Bool.and_eq_true, decide_eq_true_eq] at hB
    obtain ⟨⟨hkm, hr⟩, hB'⟩ := hB
    obtain ⟨hc, o, h0, h'⟩ := h
    refine ⟨hc, fun h1 => (by rw [hr] at h1; cases h1), fun i hi => ?_⟩
    have hi' := hi
    rw [hr] at hi
    obtain rfl : i = k := by simpa using hi
    exact ⟨hkm, h'.wpOp h0 fun a' w' h2 => plan_any hsel hT p _ a' w' (inv.set hi' hkm) hB' h2⟩
  | .two i p j q, listed, a, w, inv, hB, h => by
    simp only [Plan.ok, Bool.and_eq_true, decide_eq_true_eq] at hB
    obtain ⟨⟨⟨⟨⟨him, hjm⟩, hpq⟩, hr⟩, hp⟩, hq⟩ := hB
    obtain ⟨hc, ⟨oi, h0, h1⟩, ⟨oj, h2, h3⟩⟩ := h
    refine ⟨hc, fun h1 => (by rw [hr] at h1; cases h1), fun x hx => ?_⟩
    have hx' := hx
    rw [hr] at hx
    rcases List.mem_cons.1 hx with rfl | hx
    · exact ⟨him, h1.wpOp h0 fun a' w' h => plan_any hsel hT p _ a' w' (inv.set hx' him) hp h⟩
    · obtain rfl := List.mem_singleton.1 hx
      exact ⟨hjm, h3.wpOp h2 fun a' w' h => by
        have := plan_any hsel hT q _ a' w' (inv.set hx' hjm) hq h
        rw [hpq]
        exact this⟩
/-- the first operations by a plan, the rest one behind the other -/
theorem wp_region_plan {id : Nat} {Q : Exit → Act → World → Prop} {a : Act} {w : World} {l : List Oper} (p : Plan) (C : World → Prop) (E : Act → World → Prop) (hm : P.follows .mixedOrders = true)
    (hB : (tailOkB l.toArray p.count && p.ok .any l.toArray (l.toArray.size - p.count) p.count (Array.replicate l.toArray.size false)) = true)
    (h : PlanW P l.toArray C E p a w.drew) (hE : ∀ a' w', E a' w' → wpList P l.toArray Q (l.drop p.count) a' w') : (Code.region id l.toArray true).wp P Q a w := by
  rw [Bool.and_eq_true] at hB
  obtain ⟨hok, hlex⟩ := hB
  obtain ⟨hsel, hnl, hT⟩ := tailOkB_spec hok
  have hdl : (l.drop p.count).length = l.toArray.size - p.count := by simp
  have H := plan_any (P := P) (md := .any) (m := p.count) (g := l.toArray.size - p.count) (Region.noSelect_spec hsel) hT p _ a w.drew (inv_new p.count) hlex h.go
  refine wp_region_any hm ?_
  have := wpAny_of_T (Q := Q) (g := l.toArray.size - p.count) (fun listed a' w' hL => by
    have := wpAny_of_seq (md := .any) (Q' := Q) (l.drop p.count) p.count listed a' w' (fun j => by simp [List.getElem?_drop]) (by rw [hdl]; exact hL.1) (hE _ _ hL.2)
    rwa [hdl] at this) _ _ _ _ H
  rw [show p.count + (l.toArray.size - p.count) = l.toArray.size by simp at hnl ⊢; omega] at this
  exact this
variable {E : Act → World → Prop} {p q : Plan} {o : Oper} {a : Act} {w : World}
theorem pl_val {k : Nat} (h0 : ops[k]? = some o) (hw : Region.wanted o (yielded ops a.tmps) = true) (h : ∃ v, (∀ w, C w → (execOp a.eval o).run P w = .ok (.value v) w) ∧ ∃ a', a.put o.dst v = a' ∧ PlanW P ops C E p a' w) : PlanW P ops C E (.tell k p) a w := by
  obtain ⟨v, hv, a', ha, h⟩ := h
  exact ⟨o, v, h0, .inl ⟨hw, hv⟩, by rw [ha]; exact h.go⟩
theorem pl_move {k : Nat} (x : Operand) (h0 : ops[k]? = some o) (hw : Region.wanted o (yielded ops a.tmps) = true) (hop : o.op = .move x) (h : ∃ v, a.eval x = v ∧ ∃ a', a.put o.dst v = a' ∧ PlanW P ops C E p a' w) : PlanW P ops C E (.tell k p) a w := by
  obtain ⟨v, hv, h⟩ := h
  exact pl_val h0 hw ⟨v, fun w _ => by rw [BigFrame.run_move x hop, hv], h⟩
/-- one that is alone: what it does -/
structure AloneW (P : Program) (ops : Array Oper) (o : Oper) (K : Act → World → Prop) (a : Act) (w : World) : Prop where
  go : aloneP P ops o K a w
theorem pl_one {k : Nat} (h0 : ops[k]? = some o) (hc : C w) (h : AloneW P ops o (fun a' w' => PlanW P ops C E p a' w') a w) : PlanW P ops C E (.one k p) a w :=
  ⟨hc, o, h0, h.go.imp (fun h => ⟨h.1, Oper.wp_mono (fun _ _ h => h.go) h.2⟩) (fun h => ⟨h.1, h.2.go⟩)⟩
theorem pl_two {i j : Nat} {oj : Oper} (h0 : ops[i]? = some o) (h1 : ops[j]? = some oj) (hc : C w) (h : AloneW P ops o (fun a' w' => PlanW P ops C E p a' w') a w) (h' : AloneW P ops oj (fun a' w' => PlanW P ops C E q a' w') a w) : PlanW P ops C E (.two i p j q) a w :=
  ⟨hc, ⟨o, h0, h.go.imp (fun h => ⟨h.1, Oper.wp_mono (fun _ _ h => h.go) h.2⟩) (fun h => ⟨h.1, h.2.go⟩)⟩, ⟨oj, h1, h'.go.imp (fun h => ⟨h.1, Oper.wp_mono (fun _ _ h => h.go) h.2⟩) (fun h => ⟨h.1, h.2.go⟩)⟩⟩
theorem al_val {K : Act → World → Prop} (hw : Region.wanted o (yielded ops a.tmps) = true) (h : ∃ v w', (execOp a.eval o).run P w = .ok (.value v) w' ∧ ∃ a', a.put o.dst v = a' ∧ K a' w') : AloneW P ops o K a w := by
  obtain ⟨v, w', hv, a', ha, h⟩ := h
  refine ⟨.inl ⟨hw, ?_⟩⟩
  unfold Oper.wp
  rw [hv]
  show K (a.put o.dst v) w'
  rw [ha]
  exact h
theorem al_wp {K : Act → World → Prop} (hw : Region.wanted o (yielded ops a.tmps) = true) (h : o.wp P a w K Qz) : AloneW P ops o K a w := ⟨.inl ⟨hw, h⟩⟩
/-- alone: a store -/
theorem al_skip {K : Act → World → Prop} (hw : Region.wanted o (yielded ops a.tmps) = true) (h : ∃ w', (execOp a.eval o).run P w = .ok .skip w' ∧ ∃ a', a.put o.dst undef = a' ∧ K a' w') : AloneW P ops o K a w := by
  obtain ⟨w', hv, a', ha, h⟩ := h
  refine ⟨.inl ⟨hw, ?_⟩⟩
  unfold Oper.wp
  rw [hv]
  show K (a.put o.dst undef) w'
  rw [ha]
  exact h
/-- alone: a call -/
theorem al_call {K : Act → World → Prop} {f : FuncId} {args : Array Value} {R : Ending → World → Prop} (hw : Region.wanted o (yielded ops a.tmps) = true) (hv : (execOp a.eval o).run P w = .ok (.enter f args) w) (hcall : Calls P f args w R)
    (h : ∀ e w', R e w' → ∃ v, e = .returned v ∧ ∃ a', a.put o.dst v = a' ∧ K a' w') : AloneW P ops o K a w := by
  refine ⟨.inl ⟨hw, ?_⟩⟩
  unfold Oper.wp
  rw [hv]
  refine hcall.mono fun e w' he => ?_
  obtain ⟨v, rfl, a', ha, h⟩ := h e w' he
  show K (a.put o.dst v) w'
  rw [ha]
  exact h
/-- a plan without forks: what is behind it is walked on -/
theorem wp_region_line {id : Nat} {Q : Exit → Act → World → Prop} {a : Act} {w : World} {l : List Oper} (p : Plan) (C : World → Prop) (hm : P.follows .mixedOrders = true)
    (hB : (tailOkB l.toArray p.count && p.ok .any l.toArray (l.toArray.size - p.count) p.count (Array.replicate l.toArray.size false)) = true)
    (h : PlanW P l.toArray C (fun a' w' => wpList P l.toArray Q (l.drop p.count) a' w') p a w.drew) : (Code.region id l.toArray true).wp P Q a w := wp_region_plan p C _ hm hB h (fun _ _ h => h)
theorem pl_end (hc : C w) (h : E a w) : PlanW P ops C E .done a w := ⟨hc, h⟩
end
end Go.Proofs.YtdnljmncdbcgeaaGreat

/- watch: side.note. -/
namespace Go.Proofs.YtdnljmncdbcgeaaGreat
open Go.RowKit Go.Maps

theorem treeGetP_any (v : Option Addr) (L : List (List UInt8 × LV)) (p : List UInt8) (w : World) (h : TreeP w v L) (hp : p.length ≤ 140737488355328) :
    Calls Tryz.prog 112 #[.pointer v, .string ⟨⟨p⟩⟩] w fun e w' => LeafOwn w' w.heap.size e (getR L p) ∧ Below w.heap.size w w' := by
  rcases h with ⟨rfl, rfl⟩ | ⟨tb, mo, rfl, ht⟩
  · exact treeGet_nil p w
  · exact treeGet_any tb mo L p w ht hp
theorem treeCloneP_any (C : Nat → Prop) (v : Option Addr) (L : List (List UInt8 × LV)) (w : World) (h : TreeP w v L) (hC : ∀ b, w.heap.size ≤ b → C b) :
    Calls Tryz.prog 113 #[.pointer v] w fun e w' => ∃ v', e = .returned (.pointer v') ∧ TreeQ w' C v' L ∧ Below w.heap.size w w' := by
  rcases h with ⟨rfl, rfl⟩ | ⟨tb, mo, rfl, ht⟩
  · refine (treeClone_nil w).mono ?_
    rintro e w' ⟨rfl, hb⟩
    exact ⟨none, rfl, .inl ⟨rfl, rfl⟩, hb⟩
  · refine (treeClone_any tb mo L w ht).mono ?_
    rintro e w' ⟨cb, mo', rfl, h1, h2, h3, hb⟩
    exact ⟨_, rfl, .inr ⟨cb, mo', rfl, h3, hC _ h1, fun b e => hC _ (h2 b e)⟩, hb⟩
/-- the row of a path: none is an empty one -/
def rowO (R : List (List UInt8 × RW)) (p : List UInt8) : RW := (getR R p).getD ⟨none, 0, []⟩
theorem rowsW_O (R : List (List UInt8 × RW)) (p : List UInt8) : rowsW R p = (rowO R p).l.map TU.pl := by
  unfold rowsW rowO
  rcases getR R p with _ | r <;> rfl
theorem turn_zero (w : World) : (zeroValue 109).run Tryz.prog w = .ok (.slice none 0 0) w := by kernel_rfl
theorem Row.ne_map {w : World} {base : Nat} {e : TypeId} {size n c : Nat} {A : Option Addr} {xs : List Value} {mb : Nat} {K : List (List UInt8 × Value)} (h : Row w base e size A n c xs) (hm : MapAt w Tryz.prog 9 mb K) : ablk A ≠ some mb := by
  intro e1
  rcases A with _ | a
  · cases e1
  · obtain ⟨g, off, cur, e2, _, hk, _⟩ := h.at_ a rfl
    subst e2
    injection e1 with e1
    have e3 : g = mb := e1
    subst e3
    exact hm.not_cells hk
namespace TurnsAt
variable {w w' : World} {m : Option Nat} {R : List (List UInt8 × RW)}
theorem rowO_row (h : TurnsAt w m R) (p : List UInt8) : Row w 0 111 3 (rowO R p).A (rowO R p).l.length (rowO R p).c ((rowO R p).l.flatMap TU.cells) := by
  unfold rowO
  rcases hg : getR R p with _ | r
  · exact Row.none_ _ _ _ _
  · exact h.row _ (getR_mem hg)
theorem rowO_own (h : TurnsAt w m R) (p : List UInt8) : ∀ t ∈ (rowO R p).l, OwB w 0 (.slice t.o.x.A t.o.x.l.length t.o.x.c) t.o.x.l ∧ t.o.x.l.length ≤ 4096 := by
  unfold rowO
  rcases hg : getR R p with _ | r
  · simp
  · exact h.own _ (getR_mem hg)
theorem rowO_blk (p : List UInt8) {b : Nat} (hb : ablk (rowO R p).A = some b) : blkW R b := by
  unfold rowO at hb
  rcases hg : getR R p with _ | r
  · rw [hg] at hb; cases hb
  · rw [hg] at hb; exact ⟨_, getR_mem hg, hb⟩
theorem look (h : TurnsAt w m R) (p : List UInt8) (hp : p.length ≤ maxLen) :
    (Instr.lookup 97 (.map m) (.string ⟨⟨p⟩⟩) false).run Tryz.prog w = .ok (rowO R p).v w := by
  rcases h.map with ⟨rfl, rfl⟩ | ⟨mb, rfl, hm⟩
  · exact Maps.look_nil false str_keyed Tryz.underlying97 (turn_zero w) (Go.WideMaps.keyOf_string_mk Tryz.underlying9 (s := ⟨⟨p⟩⟩) hp)
  · rw [hm.look Tryz.underlying9 Tryz.underlying97 (turn_zero w) p hp, mapW_get]
    unfold rowO
    rcases getR R p with _ | o <;> rfl
/-- a row grown, and stored -/
theorem put {w2 w3 : World} {mb : Nat} {p : List UInt8} {A' : Option Addr} {c' : Nat} {l' : List TU} (h : TurnsAt w (some mb) R) (k : Fr (fun b => ablk (rowO R p).A = some b) w w2)
    (hrow : Row w2 0 111 3 A' l'.length c' (l'.flatMap TU.cells)) (hfresh : ∀ g, ablk A' = some g → ablk (rowO R p).A = some g ∨ w.heap.size ≤ g)
    (hown : ∀ t ∈ l', OwB w2 0 (.slice t.o.x.A t.o.x.l.length t.o.x.c) t.o.x.l ∧ t.o.x.l.length ≤ 4096)
    (hm : MapAt w3 Tryz.prog 9 mb (putR (mapW R) p (.slice A' l'.length c'))) (hg : w2.grownBy w3 (some mb)) : TurnsAt w3 (some mb) (putR R p ⟨A', c', l'⟩) := by
  have f3 : Fr (fun b => b = mb) w2 w3 := Fr.of_grown hg (fun k _ e => by injection e with e; exact e.symm)
  obtain ⟨mb', e, hm0⟩ : ∃ mb', some mb = some mb' ∧ MapAt w Tryz.prog 9 mb' (mapW R) := by
    rcases h.map with ⟨e, _⟩ | h
    · cases e
    · exact h
  injection e with e
  subst e
  have hm2 : MapAt w2 Tryz.prog 9 mb (mapW R) := hm0.block (k.block mb hm0.lt (fun e => (h.rowO_row p).ne_map hm0 e))
  have n1 : NoB w (fun b => ablk (rowO R p).A = some b) := fun b hb => NoB.row (h.rowO_row p) (by decide) hb
  have n2 : NoB w2 (fun b => b = mb) := fun b hb => hb ▸ NoB.map hm2
  have hne : ∀ x ∈ R, x.1 ≠ p → ∀ b, ablk x.2.A = some b → ablk (rowO R p).A ≠ some b := by
    intro x hx hxp b hb
    unfold rowO
    rcases hq : getR R p with _ | r
    · intro e; cases e
    · exact h.apart x hx (p, r) (getR_mem hq) hxp b hb
  have hr2 : ∀ x ∈ R, x.1 ≠ p → Row w2 0 111 3 x.2.A x.2.l.length x.2.c (x.2.l.flatMap TU.cells) := fun x hx hxp => (h.row x hx).fr k (fun g hg e => hne x hx hxp g hg e)
  have hmem : ∀ x, x ∈ putR R p ⟨A', c', l'⟩ → x = (p, ⟨A', c', l'⟩) ∨ (x ∈ R ∧ x.1 ≠ p) := by
    intro x hx
    unfold putR at hx
    rcases mem_ins.1 hx with e | hx
    · exact .inl e
    · exact .inr ⟨(List.mem_filter.1 hx).1, without_ne R p x hx⟩
  refine ⟨.inr ⟨mb, rfl, by rw [mapW_put]; exact hm⟩, ?_, ?_, ?_, h.sort.put p _⟩
  · intro x hx
    rcases hmem x hx with rfl | ⟨hx, hxp⟩
    · exact hrow.fr f3 (fun g hg e => hrow.ne_map hm2 (by rw [hg, e]))
    · exact (hr2 x hx hxp).fr f3 (fun g hg e => (hr2 x hx hxp).ne_map hm2 (by rw [hg, e]))
  · intro x hx t ht
    rcases hmem x hx with rfl | ⟨hx, hxp⟩
    · exact ⟨own_fr (hown t ht).1 f3 (n2.own (hown t ht).1), (hown t ht).2⟩
    · have h1 := (h.own x hx t ht).1
      have h2 := own_fr h1 k (n1.own h1)
      exact ⟨own_fr h2 f3 (n2.own h2), (h.own x hx t ht).2⟩
  · have hnx : ∀ x ∈ R, x.1 ≠ p → ∀ b, ablk x.2.A = some b → ablk A' ≠ some b := by
      intro x hx hxp b hb e
      rcases hfresh b e with e2 | e2
      · exact hne x hx hxp b hb e2
      · have := ((h.row x hx).lt b hb).2; omega
    intro x hx y hy hxy b hb
    rcases hmem x hx with rfl | ⟨hx, hxp⟩
    · rcases hmem y hy with rfl | ⟨hy, hyp⟩
      · exact absurd rfl hxy
      · exact fun e => hnx y hy hyp b e hb
    · rcases hmem y hy with rfl | ⟨hy, hyp⟩
      · exact hnx x hx hxp b hb
      · exact h.apart x hx y hy hxy b hb
end TurnsAt
theorem rowsW_put (R : List (List UInt8 × RW)) (p q : List UInt8) (r : RW) : rowsW (putR R p r) q = if q = p then r.l.map TU.pl else rowsW R q := by
  unfold rowsW
  rw [getR_put]
  split <;> rfl
theorem blkW_put {R : List (List UInt8 × RW)} {p : List UInt8} {r : RW} {b : Nat} (h : blkW (putR R p r) b) : ablk r.A = some b ∨ blkW R b := by
  obtain ⟨x, hx, hb⟩ := h
  unfold putR at hx
  rcases mem_ins.1 hx with rfl | hx
  · exact .inl hb
  · exact .inr ⟨x, (List.mem_filter.1 hx).1, hb⟩
theorem diff_mem (S T : List (List UInt8 × LP)) (p : List UInt8) : p ∈ diffS S T ↔ at0 T p ≠ at0 S p := by
  unfold diffS
  rw [List.mem_filter, (union_keys _).2, List.mem_append, ← getR_isSome, ← getR_isSome]
  unfold diffB
  constructor
  · rintro ⟨_, h⟩ e
    rw [e] at h
    simp at h
  · intro h
    refine ⟨?_, by simpa using fun e => h e.symm⟩
    unfold at0 at h
    rcases h1 : getR S p with _ | x
    · rcases h2 : getR T p with _ | y
      · rw [h1, h2] at h; exact absurd rfl h
      · exact .inr rfl
    · exact .inl rfl
theorem diff_nodup (S T : List (List UInt8 × LP)) : (diffS S T).Nodup := by
  unfold diffS
  exact List.Pairwise.filter _ (union_keys _).1.nodup
theorem diff_len (S T : List (List UInt8 × LP)) : (diffS S T).length ≤ S.length + T.length := by
  have h1 : (diffS S T).length ≤ (keysR S ++ keysR T).length := nodup_len _ _ (diff_nodup S T) (fun p hp => by
    unfold diffS at hp
    exact ((union_keys _).2 p).1 (List.mem_filter.1 hp).1)
  rwa [List.length_append, keys_len, keys_len] at h1
end Go.Proofs.YtdnljmncdbcgeaaGreat
