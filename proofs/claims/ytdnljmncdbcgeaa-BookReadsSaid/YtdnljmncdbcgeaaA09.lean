/-
  DERIVED: THE SHELF's CONTRACTS AT THIS DUMP, IN PLAIN WORDS (tools/lay-plain.mjs out of 'TryLays.lean', which tools/lay-shelf.mjs wrote): THE SAME DECLARATIONS UNDER THE SAME NAMES: 'import', 'namespace', 'open', 'def', 'theorem' AND NOTHING ELSE: no command of the shelf's: FOR A HAND-IN. Each laying: the table of numbers ('.._ren') and one theorem, a field a fact of the dump's own or the kernel's comparison; each contract: ONE APPLICATION.
-/
import Derived.Test.YtdnljmncdbcgeaaA08
import Derived.Shelf.SlSortCmp.NoneTotal
import Derived.Ground.SlsfProg
import Derived.Shelf.SlMaps.Clone
import Derived.Ground.SlmcProg
import Derived.Shelf.SlIter.Nil
import Derived.Ground.GgzProg
import Derived.Test.YtdnljmncdbcgeaaProg
import Derived.Shelf.Small.Bits
import Derived.Sort.OwnSorted

namespace Go.Proofs
open Go.Shelf
def Try.sortT_ren : Go.Shelf.Ren := ⟨fun | 6 => 72 | 15 => 124 | 14 => 123 | 28 => 158 | 29 => 159 | 20 => 150 | 21 => 151 | 22 => 152 | 23 => 153 | 24 => 154 | 25 => 155 | 26 => 156 | 27 => 157 | 46 => 173 | 47 => 174 | 48 => 175 | 49 => 176 | 50 => 177 | 57 => 187 | n => n, fun | 22 => 63 | 24 => 9 | 25 => 113 | 3 => 3 | 39 => 191 | 0 => 0 | 53 => 222 | 55 => 23 | 4 => 4 | 46 => 215 | 45 => 214 | 50 => 219 | 5 => 5 | 9 => 9 | 66 => 231 | 70 => 234 | 76 => 237 | 77 => 238 | n => n, fun | n => n⟩
theorem Try.sortT : Go.Proofs.SlLaysF.n6 Try.prog Try.sortT_ren := {
  mixed := by kernel_rfl
  f6 := ⟨Try.f72.name, by decide, Try.func72.trans (congrArg some (by kernel_rfl))⟩
  f14 := ⟨Try.f123.name, by decide, Try.func123.trans (congrArg some (by kernel_rfl))⟩
  f15 := Try.func124.trans (congrArg some (by kernel_rfl))
  f20 := ⟨Try.f150.name, by decide, Try.func150.trans (congrArg some (by kernel_rfl))⟩
  f21 := ⟨Try.f151.name, by decide, Try.func151.trans (congrArg some (by kernel_rfl))⟩
  f22 := ⟨Try.f152.name, by decide, Try.func152.trans (congrArg some (by kernel_rfl))⟩
  f23 := ⟨Try.f153.name, by decide, Try.func153.trans (congrArg some (by kernel_rfl))⟩
  f24 := ⟨Try.f154.name, by decide, Try.func154.trans (congrArg some (by kernel_rfl))⟩
  f25 := ⟨Try.f155.name, by decide, Try.func155.trans (congrArg some (by kernel_rfl))⟩
  f26 := ⟨Try.f156.name, by decide, Try.func156.trans (congrArg some (by kernel_rfl))⟩
  f27 := ⟨Try.f157.name, by decide, Try.func157.trans (congrArg some (by kernel_rfl))⟩
  f28 := Try.func158.trans (congrArg some (by kernel_rfl))
  f29 := Try.func159.trans (congrArg some (by kernel_rfl))
  f46 := ⟨Try.f173.name, by decide, Try.func173.trans (congrArg some (by kernel_rfl))⟩
  f47 := Try.func174.trans (congrArg some (by kernel_rfl))
  f48 := Try.func175.trans (congrArg some (by kernel_rfl))
  f49 := ⟨Try.f176.name, by decide, Try.func176.trans (congrArg some (by kernel_rfl))⟩
  f50 := ⟨Try.f177.name, by decide, Try.func177.trans (congrArg some (by kernel_rfl))⟩
  f57 := ⟨Try.f187.name, by decide, Try.func187.trans (congrArg some (by kernel_rfl))⟩
  t0 := Try.underlying0
  a0 := Try.isAgg0
  z0 := Try.sizeOf0
  v0 := Try.zeroValue0
  t3 := Try.underlying3
  a3 := Try.isAgg3
  z3 := Try.sizeOf3
  v3 := Try.zeroValue3
  t4 := Try.underlying4
  a4 := Try.isAgg4
  z4 := Try.sizeOf4
  v4 := Try.zeroValue4
  t5 := Try.underlying5
  a5 := Try.isAgg5
  z5 := Try.sizeOf5
  v5 := Try.zeroValue5
  t9 := Try.underlying9
  a9 := Try.isAgg9
  z9 := Try.sizeOf9
  v9 := Try.zeroValue9
  t22 := Try.underlying63
  a22 := Try.isAgg63
  z22 := Try.sizeOf63
  v22 := Try.zeroValue63
  a24 := Try.isAgg9
  z24 := Try.sizeOf9
  t25 := Try.underlying113
  a25 := Try.isAgg113
  z25 := Try.sizeOf113
  v25 := Try.zeroValue113
  t39 := Try.underlying191
  a39 := Try.isAgg191
  z39 := Try.sizeOf191
  v39 := Try.zeroValue191
  t45 := Try.underlying214
  a45 := Try.isAgg214
  z45 := Try.sizeOf214
  v45 := Try.zeroValue214
  t46 := Try.underlying215
  a46 := Try.isAgg215
  z46 := Try.sizeOf215
  v46 := Try.zeroValue215
  t50 := Try.underlying219
  a50 := Try.isAgg219
  z50 := Try.sizeOf219
  v50 := Try.zeroValue219
  t53 := Try.underlying222
  a53 := Try.isAgg222
  z53 := Try.sizeOf222
  v53 := Try.zeroValue222
  t55 := Try.underlying23
  a55 := Try.isAgg23
  z55 := Try.sizeOf23
  v55 := Try.zeroValue23
  t66 := Try.underlying231
  a66 := Try.isAgg231
  z66 := Try.sizeOf231
  v66 := Try.zeroValue231
  t70 := Try.underlying234
  a70 := Try.isAgg234
  z70 := Try.sizeOf234
  v70 := Try.zeroValue234
  t76 := Try.underlying237
  a76 := Try.isAgg237
  z76 := Try.sizeOf237
  v76 := Try.zeroValue237
  t77 := Try.underlying238
  a77 := Try.isAgg238
  z77 := Try.sizeOf238
  v77 := Try.zeroValue238 }
def Try.cloneM_ren : Go.Shelf.Ren := ⟨fun | 5 => 169 | 7 => 125 | n => n, fun | 23 => 141 | 25 => 9 | 3 => 26 | 4 => 4 | 20 => 20 | n => n, fun | n => n⟩
theorem Try.cloneM : Go.Proofs.SlLaysW.n5 Try.prog Try.cloneM_ren := {
  mixed := by kernel_rfl
  f5 := ⟨Try.f169.name, by decide, Try.func169.trans (congrArg some (by kernel_rfl))⟩
  f7 := Try.func125.trans (congrArg some (by kernel_rfl))
  t4 := Try.underlying4
  a4 := Try.isAgg4
  z4 := Try.sizeOf4
  v4 := Try.zeroValue4
  t20 := Try.underlying20
  a20 := Try.isAgg20
  z20 := Try.sizeOf20
  v20 := Try.zeroValue20
  t23 := Try.underlying141
  a23 := Try.isAgg141
  z23 := Try.sizeOf141
  v23 := Try.zeroValue141 }
def Try.keysB_ren : Go.Shelf.Ren := ⟨fun | 7 => 110 | 10 => 146 | n => n, fun | 23 => 67 | 26 => 9 | 3 => 28 | 28 => 122 | 0 => 0 | 27 => 121 | 33 => 114 | 4 => 4 | n => n, fun | n => n⟩
theorem Try.keysB : Go.Proofs.SlLaysZ.n7 Try.prog Try.keysB_ren := {
  mixed := by kernel_rfl
  f7 := ⟨Try.f110.name, by decide, Try.func110.trans (congrArg some (by kernel_rfl))⟩
  f10 := ⟨Try.f146.name, by decide, Try.func146.trans (congrArg some (by kernel_rfl))⟩
  t0 := Try.underlying0
  a0 := Try.isAgg0
  z0 := Try.sizeOf0
  v0 := Try.zeroValue0
  t4 := Try.underlying4
  a4 := Try.isAgg4
  z4 := Try.sizeOf4
  v4 := Try.zeroValue4
  t23 := Try.underlying67
  a23 := Try.isAgg67
  z23 := Try.sizeOf67
  v23 := Try.zeroValue67
  t26 := Try.underlying9
  a26 := Try.isAgg9
  z26 := Try.sizeOf9
  v26 := Try.zeroValue9
  t27 := Try.underlying121
  a27 := Try.isAgg121
  z27 := Try.sizeOf121
  v27 := Try.zeroValue121
  t28 := Try.underlying122
  a28 := Try.isAgg122
  z28 := Try.sizeOf122
  v28 := Try.zeroValue122
  t33 := Try.underlying114
  a33 := Try.isAgg114
  z33 := Try.sizeOf114
  v33 := Try.zeroValue114 }
def Try.collectB_ren : Go.Shelf.Ren := ⟨fun | 8 => 119 | 11 => 149 | n => n, fun | 26 => 9 | 28 => 122 | 24 => 63 | 0 => 0 | 33 => 114 | 4 => 4 | n => n, fun | n => n⟩
theorem Try.collectB : Go.Proofs.SlLaysZ.n8 Try.prog Try.collectB_ren := {
  mixed := by kernel_rfl
  f8 := ⟨Try.f119.name, by decide, Try.func119.trans (congrArg some (by kernel_rfl))⟩
  f11 := ⟨Try.f149.name, by decide, Try.func149.trans (congrArg some (by kernel_rfl))⟩
  t0 := Try.underlying0
  a0 := Try.isAgg0
  z0 := Try.sizeOf0
  v0 := Try.zeroValue0
  t24 := Try.underlying63
  a24 := Try.isAgg63
  z24 := Try.sizeOf63
  v24 := Try.zeroValue63
  t26 := Try.underlying9
  a26 := Try.isAgg9
  z26 := Try.sizeOf9
  v26 := Try.zeroValue9
  t28 := Try.underlying122
  a28 := Try.isAgg122
  z28 := Try.sizeOf122
  v28 := Try.zeroValue122
  i26 := by kernel_rfl }
def Try.cloneB_ren : Go.Shelf.Ren := ⟨fun | 5 => 74 | 7 => 125 | n => n, fun | 23 => 67 | 25 => 9 | 3 => 28 | 4 => 4 | 20 => 20 | n => n, fun | n => n⟩
theorem Try.cloneB : Go.Proofs.SlLaysW.n5 Try.prog Try.cloneB_ren := {
  mixed := by kernel_rfl
  f5 := ⟨Try.f74.name, by decide, Try.func74.trans (congrArg some (by kernel_rfl))⟩
  f7 := Try.func125.trans (congrArg some (by kernel_rfl))
  t4 := Try.underlying4
  a4 := Try.isAgg4
  z4 := Try.sizeOf4
  v4 := Try.zeroValue4
  t20 := Try.underlying20
  a20 := Try.isAgg20
  z20 := Try.sizeOf20
  v20 := Try.zeroValue20
  t23 := Try.underlying67
  a23 := Try.isAgg67
  z23 := Try.sizeOf67
  v23 := Try.zeroValue67 }
end Go.Proofs

/- slices.SortFunc of texts by name.Compare: a row of the call's own, in the paths' order. -/
namespace Go.Proofs.Ytdnljmncdbcgeaa
open Go.Shelf Go.RowKit Go.Lib Go.Sort

/-- a text that is no longer than a text may be -/
abbrev TxtB := { l : List UInt8 // l.length ≤ 9223372036854775807 }
instance : Inhabited TxtB := ⟨⟨[], by simp⟩⟩
def txtV (x : TxtB) : Value := .string ⟨⟨x.1⟩⟩
def cmpX (x y : TxtB) : Int := cmpT x.1 y.1

section
variable {α : Type} [Inhabited α] {enc : α → Value}
theorem heap_sortedG {w : World} {g n : Nat} {os : Array Obj} {cur : Array Value} {e : TypeId} {fr : Nat × Nat} (d : Array α) (hb : w.heap[g]? = some (.cells cur e fr)) :
    (grow (putRow enc (Sort.ahead w n) g 0 d) os).heap[g]? = some (.cells (putCells enc 0 d cur) e fr) := by
  have hg : g < w.heap.size := (Array.getElem?_eq_some_iff.1 hb).1
  rw [heap_grow_old _ _ (by simpa using hg)]
  simp [putRow, mapBlock, Sort.ahead, Array.getElem?_modify, hb, onCells]
theorem grownBy_sortedG {w : World} {g n : Nat} {os : Array Obj} (d : Array α) : w.grownBy (grow (putRow enc (Sort.ahead w n) g 0 d) os) (some g) := by
  refine ⟨rfl, rfl, rfl, by simp, fun k hk hne => ?_⟩
  rw [heap_grow_old _ _ (by simpa using hk)]
  have : g ≠ k := fun e => hne (by rw [e])
  simp [putRow, mapBlock, Sort.ahead, Array.getElem?_modify, this]
theorem take_putCellsG (cur : Array Value) (ts : List α) (h : ts.length ≤ cur.size) : (putCells enc 0 ts.toArray cur).toList.take ts.length = ts.map enc := by
  apply List.ext_getElem?
  intro j
  by_cases hj : j < ts.length
  · rw [List.getElem?_take_of_lt hj, Array.getElem?_toList]
    simp [putCells, hj, show j < cur.size by omega]
  · rw [List.getElem?_take_eq_none (by omega), List.getElem?_eq_none (by simp; omega)]
theorem ownsRow_sortedG {w : World} {base g cap n : Nat} {e : TypeId} {os : Array Obj} {cur : Array Value} {ss ts : List α} (hl : ts.length = ss.length) (hbase : base ≤ g) (hb : w.heap[g]? = some (.cells cur e (0, 0)))
    (h1 : ss.length ≤ cap) (h2 : cap ≤ maxLen) (h3 : cur.size = cap * 1) :
    (grow (putRow enc (Sort.ahead w n) g 0 ts.toArray) os).ownsRow base e 1 (.slice (some ⟨g, 0, none⟩) ss.length cap) ss.length (ts.map enc) :=
  ⟨by simp [hl], .inr ⟨g, cap, _, rfl, hbase, heap_sortedG _ hb, h1, h2, by simp [putCells, h3], by rw [Nat.mul_one, ← hl]; exact take_putCellsG cur ts (by omega)⟩⟩
theorem holds_of_blockG {w : World} {g : Nat} {cur : Array Value} {e : TypeId} {ss : List α} (hb : w.heap[g]? = some (.cells cur e (0, 0))) (ht : cur.toList.take ss.length = ss.map enc) : Holds enc w g 0 ss.toArray := by
  intro j hj
  have hj' : j < ss.length := by simpa using hj
  refine ⟨?_, by simp [World.frozen?, hb]⟩
  have h1 : (cur.toList.take ss.length)[j]? = (ss.map enc)[j]? := by rw [ht]
  rw [List.getElem?_take_of_lt hj'] at h1
  simp only [World.cell?, hb, Nat.zero_add]
  simp only [Option.isSome_none, Bool.false_eq_true, if_false]
  rw [← Array.getElem?_toList, h1]
  simp [hj']
end
theorem cmpX_lt (x y : TxtB) : ltOf cmpX x y = decide (cmpT x.1 y.1 < 0) := rfl
theorem swoX : SWO (ltOf cmpX) where
  irrefl x := by rw [cmpX_lt, cmpT_self]; simp
  trans x y z h1 h2 := by
    rw [cmpX_lt] at *
    simp only [decide_eq_true_eq] at *
    exact ordT.trans _ _ _ h1 h2
  ntrans x y z h1 h2 := by
    rw [cmpX_lt] at *
    have := leT_trans z.1 y.1 x.1 (by simpa [leT] using h2) (by simpa [leT] using h1)
    simpa [leT] using this
theorem totX (x y : TxtB) (h1 : ltOf cmpX x y = false) (h2 : ltOf cmpX y x = false) : x = y := by
  rw [cmpX_lt] at *
  exact Subtype.ext (leT_anti x.1 y.1 (by simpa [leT] using h2) (by simpa [leT] using h1))
theorem cmpReadsX (blk off size : Nat) (w : World) : CmpReads Try.prog 60 #[] txtV cmpX blk off size w := by
  intro m os dk _ x y
  refine (compare_any ⟨⟨x.1⟩⟩ ⟨⟨y.1⟩⟩ x.2 y.2 _).mono ?_
  rintro e w' ⟨rfl, hq⟩
  exact ⟨rfl, hq⟩
theorem txts : ∀ (ss : List (List UInt8)), (∀ x ∈ ss, x.length ≤ 140737488355328) → ∃ ts : List TxtB, ts.map Subtype.val = ss
  | [], _ => ⟨[], rfl⟩
  | x :: ss, h => by
    obtain ⟨ts, e⟩ := txts ss (fun y hy => h y (by simp [hy]))
    exact ⟨⟨x, by have := h x (by simp); omega⟩ :: ts, by rw [List.map_cons, e]⟩
set_option maxHeartbeats 1000000 in
/-- a row of texts is sorted by name.Compare -/
theorem sortsT : SortsT := by
  intro base A c ss w hown hl hss
  obtain ⟨ts, hts⟩ := txts ss hl
  have hlen : ts.length = ss.length := by rw [← hts, List.length_map]
  have hmv : ss.map stv = ts.map txtV := by rw [← hts, List.map_map]; rfl
  rcases hown.2 with ⟨hnil, h0⟩ | ⟨g, cap, cur, hv, hbase, hb, h1, h2, h3, h4⟩
  · obtain ⟨rfl, hl0, rfl⟩ : A = none ∧ ss.length = 0 ∧ c = 0 := by simpa using hnil
    obtain rfl : ss = [] := List.eq_nil_of_length_eq_zero hl0
    have hcon := AnyF.slices_SortFunc_none { Try.sortT with } none 0 (.func (.func 60) #[] #[]) w
    change Calls Try.prog 72 _ _ _ at hcon
    refine hcon.mono ?_
    rintro e w' ⟨rfl, rfl⟩
    exact ⟨rfl, by simpa using hown, World.grownBy.refl _ _⟩
  · obtain ⟨rfl, rfl⟩ : A = some ⟨g, 0, none⟩ ∧ c = cap := by simpa using hv
    have eg : ∀ args w, (callFunc 60 args).run Try.prog w = .ok (.enter 60 args) w := enters_of Try.func60 (by kernel_rfl) rfl
    have hglt : g < w.heap.size := (Array.getElem?_eq_some_iff.1 hb).1
    have hH : Holds txtV w g 0 ts.toArray := holds_of_blockG hb (by rw [hlen, ← hmv]; simpa using h4)
    have hbig : ss.length < 4611686018427387904 := by omega
    have hcon := Any.slices_SortFunc_total Try.sortT txtV (fun _ => rfl) cmpX swoX 60 #[] g 0 c ts.toArray w eg (cmpReadsX g 0 ts.toArray.size w).lays hH hglt (by simpa [hlen] using hbig) totX
    change Calls Try.prog 72 _ _ _ at hcon
    rw [show ts.toArray.size = ss.length by simp [hlen]] at hcon
    refine hcon.mono ?_
    rintro e w' ⟨rfl, n, os, rfl⟩
    have hms : (ts.mergeSort fun x y => !(ltOf cmpX) y x).map Subtype.val = ss.mergeSort leT := by
      rw [← hts]
      exact List.map_mergeSort (fun a _ b _ => rfl)
    refine ⟨rfl, ?_, ?_⟩
    · have := ownsRow_sortedG (enc := txtV) (n := n) (os := os) (ts := ts.mergeSort fun x y => !(ltOf cmpX) y x) (ss := ts) (by rw [List.length_mergeSort]) hbase hb (by omega) h2 h3
      rw [hlen] at this
      have e2 : (ss.mergeSort leT).map stv = (ts.mergeSort fun x y => !(ltOf cmpX) y x).map txtV := by rw [← hms, List.map_map]; rfl
      rw [e2]
      exact this
    · exact grownBy_sortedG _
end Go.Proofs.Ytdnljmncdbcgeaa

/- book.Book's paths, in order. -/
namespace Go.Proofs.Ytdnljmncdbcgeaa
open Go.RowKit Go.Maps Go.Sort Go.Shelf

theorem keysB_any (mo : Option Nat) (W : World) : Calls Try.prog 110 #[.map mo] W fun e w' => e = .returned (.func (.func 146) #[] #[.pointer (some ⟨W.heap.size, 0, none⟩)]) ∧ w' = W.alloc (.cells #[.map mo] 67) :=
  (callsIn_wide (n := 5)).1 (AnyZ.keys_in Try.keysB Fence.wide 5 trivial rfl mo W)
set_option maxRecDepth 100000 in
set_option maxHeartbeats 1000000 in
theorem collectB_any {mb : Nat} {L : List (List UInt8 × Value)} (w : World) (h : MapAt w Try.prog 9 mb L) (hl : L.length ≤ 1000000) :
    Calls Try.prog 119 #[.func (.func 146) #[] #[.pointer (some ⟨w.heap.size, 0, none⟩)]] (w.alloc (.cells #[.map (some mb)] 67)) fun e w' => ∃ A c, ∃ ss : List (List UInt8), e = .returned (.slice A ss.length c) ∧ w'.ownsRow w.heap.size 9 1 (.slice A ss.length c) ss.length (ss.map stv) ∧ Hid (ss.Perm (keysR L)) ∧ Below w.heap.size w w' := by
  obtain ⟨D, hown, ht⟩ := h.own
  obtain ⟨hp, hz⟩ := own_keys hown Try.underlying9 ht h.sort
  have hseq : SeqGives Fence.wide 3 Try.prog 146 #[.pointer (some ⟨w.heap.size, 0, none⟩)] encStr (fun ss => ss.Perm (strKeys D)) (Maps.size D) (w.alloc (.cells #[.map (some mb)] 67)) :=
    AnyZ.keys_gives (ρ := Try.keysB_ren) { Try.keysB with } Fence.wide _ trivial rfl (by omega) w.heap.size mb L.length D _ (by simp) (by simp) (by
      obtain ⟨es, clock, hb, Ft, hs, hD⟩ := hown
      exact ⟨es, clock, (Below.heap_alloc _ _ mb h.lt).trans hb, Ft, hs, hD⟩)
  have cC := AnyZ.collect_in Try.collectB Fence.wide 5 trivial trivial rfl (by omega) 146 #[.pointer (some ⟨w.heap.size, 0, none⟩)] trivial (enters_of Try.func146 (by kernel_rfl) rfl) _ _ (by rw [hz]; simp only [maxLen]; omega) (by rw [hz]; omega) _ hseq
  change CallsIn _ _ Try.prog 119 _ _ _ at cC
  refine ((callsIn_wide (n := 5)).1 cC).mono ?_
  rintro e w' ⟨v, ss, rfl, hS, hrow, hnil, hb⟩
  have hrow2 := own_base (base' := w.heap.size) hrow (fun g hg => by have := (hrow.lt g hg).1; simp at this; omega)
  obtain ⟨A, c, rfl, _⟩ := own_form hrow2
  exact ⟨A, c, ss, rfl, hrow2, hS.trans hp.symm, ((Below.refl _ w).alloc (Nat.le_refl _) _).trans (hb.mono (by simp))⟩
set_option maxRecDepth 100000 in
set_option maxHeartbeats 1000000 in
theorem collectB_nil (w : World) :
    Calls Try.prog 119 #[.func (.func 146) #[] #[.pointer (some ⟨w.heap.size, 0, none⟩)]] (w.alloc (.cells #[.map none] 67)) fun e w' => ∃ A c, ∃ ss : List (List UInt8), e = .returned (.slice A ss.length c) ∧ w'.ownsRow w.heap.size 9 1 (.slice A ss.length c) ss.length (ss.map stv) ∧ Hid (ss.Perm (keysR ([] : List (List UInt8 × Value)))) ∧ Below w.heap.size w w' := by
  have hseq : SeqGives Fence.wide 3 Try.prog 146 #[.pointer (some ⟨w.heap.size, 0, none⟩)] encStr (fun ss => ss = []) 0 (w.alloc (.cells #[.map none] 67)) :=
    AnyZ.keys_gives_nil (ρ := Try.keysB_ren) { Try.keysB with } Fence.wide _ trivial rfl w.heap.size _ (by simp) (by simp)
  have cC := AnyZ.collect_in Try.collectB Fence.wide 5 trivial trivial rfl (by omega) 146 #[.pointer (some ⟨w.heap.size, 0, none⟩)] trivial (enters_of Try.func146 (by kernel_rfl) rfl) _ _ (by simp only [maxLen]; omega) (by omega) _ hseq
  change CallsIn _ _ Try.prog 119 _ _ _ at cC
  refine ((callsIn_wide (n := 5)).1 cC).mono ?_
  rintro e w' ⟨v, ss, rfl, hS, hrow, hnil, hb⟩
  have hrow2 := own_base (base' := w.heap.size) hrow (fun g hg => by have := (hrow.lt g hg).1; simp at this; omega)
  obtain ⟨A, c, rfl, _⟩ := own_form hrow2
  exact ⟨A, c, ss, rfl, hrow2, by show ss.Perm _; rw [hS]; exact List.Perm.refl _, ((Below.refl _ w).alloc (Nat.le_refl _) _).trans (hb.mono (by simp))⟩
/-- a map or none, as a row -/
def MapO (w : World) (mo : Option Nat) (L : List (List UInt8 × Value)) : Prop := (mo = none ∧ L = []) ∨ ∃ mb, mo = some mb ∧ MapAt w Try.prog 9 mb L
theorem MapO.sort {w : World} {mo : Option Nat} {L : List (List UInt8 × Value)} (h : MapO w mo L) : SortR L := by
  rcases h with ⟨_, rfl⟩ | ⟨mb, _, hm⟩
  · exact sortR_nil
  · exact hm.sort
theorem collectO_any {mo : Option Nat} {L : List (List UInt8 × Value)} (w : World) (h : MapO w mo L) (hl : L.length ≤ 1000000) :
    Calls Try.prog 119 #[.func (.func 146) #[] #[.pointer (some ⟨w.heap.size, 0, none⟩)]] (w.alloc (.cells #[.map mo] 67)) fun e w' => ∃ A c, ∃ ss : List (List UInt8), e = .returned (.slice A ss.length c) ∧ w'.ownsRow w.heap.size 9 1 (.slice A ss.length c) ss.length (ss.map stv) ∧ Hid (ss.Perm (keysR L)) ∧ Below w.heap.size w w' := by
  rcases h with ⟨rfl, rfl⟩ | ⟨mb, rfl, hm⟩
  · exact collectB_nil w
  · exact collectB_any w hm hl
set_option maxRecDepth 100000 in
set_option maxHeartbeats 1000000 in
theorem sortedB_any {mo : Option Nat} {L : List (List UInt8 × Value)} (w : World) (h : MapO w mo L) (hl : L.length ≤ 1000000) (hk : ∀ x ∈ L, x.1.length ≤ 140737488355328) :
    Calls Try.prog 67 #[.func (.func 146) #[] #[.pointer (some ⟨w.heap.size, 0, none⟩)], .func (.func 60) #[] #[]] (w.alloc (.cells #[.map mo] 67)) fun e w' => ∃ A c, e = .returned (.slice A L.length c) ∧ w'.ownsRow w.heap.size 9 1 (.slice A L.length c) L.length ((keysR L).map stv) ∧ Below w.heap.size w w' := by
  have HC := Lib.hid (collectO_any w h hl)
  have HS := Lib.hid h.sort
  have HK := Lib.hid hk
  clear h hk
  go_enter Try.func67, Try.ntmps67
  go_wp2_with fail
  refine HC.out.mono ?_
  rintro e w1 ⟨A, c, ss, rfl, hr, hp, hb⟩
  have hsl : ss.length = L.length := by rw [hp.out.length_eq, keys_len]
  have hmem : ∀ k, k ∈ ss ↔ k ∈ keysR L := fun k => hp.out.mem_iff
  have hfin : ss.mergeSort leT = keysR L := by
    have := sort_keys HS.out (fun _ => true) (hp.out.nodup_iff.2 HS.out.nodup) (fun k => by simp [hmem k])
    rwa [List.filter_eq_self.2 (fun _ _ => rfl)] at this
  have HT := sortsT w.heap.size A c ss w1 hr (fun x hx => by
    obtain ⟨y, hy, rfl⟩ := List.mem_map.1 ((hmem x).1 hx)
    exact HK.out y hy) (by omega)
  rw [hfin] at HT
  have hab : ∀ g, ablk A = some g → w.heap.size ≤ g := fun g hg => ((Row.of_own hr).lt g hg).1
  replace HT := Lib.hid HT
  have HSL := Lib.hid hsl
  clear hr hp hmem hfin HC hsl
  go_wp2_with fail
  refine HT.out.mono ?_
  rintro e w2 ⟨rfl, hr2, hg2⟩
  rw [HSL.out] at hr2
  rw [HSL.out]
  have HR := Lib.hid hr2
  have hw2 := hb.trans (grown_below hg2 hb.size hab)
  clear HT hr2 hg2 hb
  go_wp2_with fail
  go_ret
  exact ⟨A, c, rfl, HR.out, hw2⟩
set_option maxRecDepth 100000 in
set_option maxHeartbeats 1000000 in
/-- the paths of a book -/
theorem bookPaths_any (bb : Nat) (mo : Option Nat) (L : List (List UInt8 × EV)) (s : Int) (w : World) (h : BookAt w bb mo L s) :
    Calls Try.prog 58 #[.pointer (some ⟨bb, 0, none⟩)] w fun e w' => ∃ A c, e = .returned (.slice A L.length c) ∧ w'.ownsRow w.heap.size 9 1 (.slice A L.length c) L.length ((keysR L).map stv) ∧ Below w.heap.size w w' := by
  obtain ⟨_, c1⟩ := h.cells
  have hm : MapO w mo (mapB L) := by
    rcases h.map with ⟨e, e2⟩ | ⟨mb, e, hm⟩
    · exact .inl ⟨e, by rw [e2]; rfl⟩
    · exact .inr ⟨mb, e, hm⟩
  have hkm : keysR (mapB L) = keysR L := by simp [keysR, mapB, Function.comp_def]
  have HSB := sortedB_any w hm (by rw [mapB_len]; exact Nat.le_trans h.len (by omega)) (fun x hx => by
    obtain ⟨y, hy, rfl⟩ := List.mem_map.1 hx
    exact Nat.le_trans (h.keys hy) (by omega))
  rw [mapB_len, hkm] at HSB
  replace HSB := Lib.hid HSB
  have HKE := Lib.hid (keysB_any mo w)
  clear h hm hkm
  go_enter Try.func58, Try.ntmps58
  go_wp2_with fail
  refine HKE.out.mono ?_
  rintro e w1 ⟨rfl, rfl⟩
  go_wp2_with fail
  refine HSB.out.mono ?_
  rintro e w2 ⟨A, c, rfl, hr, hb⟩
  have HR := Lib.hid hr
  clear hr HSB HKE
  go_wp2_with fail
  go_ret
  exact ⟨A, c, rfl, HR.out, hb⟩
set_option maxRecDepth 100000 in
theorem bookPaths_nil (w : World) : Calls Try.prog 58 #[.pointer none] w fun e w' => e = .returned (.slice none 0 0) ∧ w = w' := by
  go_enter Try.func58, Try.ntmps58
  go_wp2_with fail
  go_ret
  exact ⟨rfl, rfl⟩
end Go.Proofs.Ytdnljmncdbcgeaa

/- Rows of entries of the call's own, bytes and all; append of one. -/
namespace Go.Proofs.Ytdnljmncdbcgeaa
open Go.RowKit

theorem own_apartE {w : World} {base base' : Nat} {e e' : TypeId} {s s' n n' : Nat} {v v' : Value} {xs xs' : List Value} (h : w.ownsRow base e s v n xs) (h' : w.ownsRow base' e' s' v' n' xs') (hne : e ≠ e') : ∀ g, v.ownBlock = some g → v'.ownBlock ≠ some g := by
  rcases h.2 with ⟨rfl, _⟩ | ⟨g', cap, cur, rfl, _, hh, _⟩
  · simp [Value.ownBlock]
  · intro g he
    have e1 : g' = g := by simpa [Value.ownBlock] using he
    subst e1
    have hb : Blk w g' e _ := hh
    exact Blk.own_ne hb h' (fun e => hne e.symm)
def OwE (w : World) (base : Nat) (A : Option Addr) (c : Nat) (M : List EV) : Prop := w.ownsRow base 28 4 (.slice A M.length c) M.length (M.flatMap EV.cells)
theorem entry_info : (Try.prog.info? 28).map (fun i => (i.zero, i.size, i.bytes)) = some (some (.agg #[.string ⟨#[]⟩, .int .u64 0, .int .i64 0, .slice none 0 0]), 4, 56) := by kernel_rfl
theorem entry_one (L : List EV) : ∀ u ∈ L.flatMap EV.cells, u.oneCell' = true := by
  intro u hu
  obtain ⟨x, _, hx⟩ := List.mem_flatMap.1 hu
  simp only [EV.cells, List.mem_cons, List.not_mem_nil, or_false] at hx
  rcases hx with rfl | rfl | rfl | rfl <;> rfl
/-- entries, each of the call's own -/
structure EsOwn (w : World) (base : Nat) (A : Option Addr) (c : Nat) (M : List EV) : Prop where
  row : OwE w base A c M
  byt : ∀ x ∈ M, OwB w base (.slice x.x.A x.x.l.length x.x.c) x.x.l
theorem EsOwn.nil (w : World) (base : Nat) : EsOwn w base none 0 [] := ⟨World.ownsRow_nil _ _ _ _, by simp⟩
theorem EsOwn.below {w w' : World} {base : Nat} {A : Option Addr} {c : Nat} {M : List EV} (h : EsOwn w base A c M) (k : Below w.heap.size w w') : EsOwn w' base A c M := ⟨own_below h.row k, fun x hx => own_below (h.byt x hx) k⟩
theorem EsOwn.base {w : World} {base base' : Nat} {A : Option Addr} {c : Nat} {M : List EV} (h : EsOwn w base A c M) (hb : base' ≤ base) : EsOwn w base' A c M :=
  ⟨own_base h.row (fun g hg => Nat.le_trans hb (h.row.lt g hg).1), fun x hx => own_base (h.byt x hx) (fun g hg => Nat.le_trans hb ((h.byt x hx).lt g hg).1)⟩
theorem EsOwn.push {w w' : World} {base : Nat} {A A' : Option Addr} {c c' : Nat} {M : List EV} {y : EV} (h : EsOwn w base A c M) (hy : OwB w base (.slice y.x.A y.x.l.length y.x.c) y.x.l) (hr : OwE w' base A' c' (M ++ [y])) (hb : Below base w w')
    (hk : ∀ k, k < w.heap.size → (Value.slice A M.length c).ownBlock ≠ some k → w'.heap[k]? = w.heap[k]?) : EsOwn w' base A' c' (M ++ [y]) := by
  have hf : Fr (fun k => (Value.slice A M.length c).ownBlock = some k) w w' := ⟨hb.os, hb.tape, hb.output, hb.size, hk⟩
  refine ⟨hr, fun x hx => ?_⟩
  rcases List.mem_append.1 hx with hx | hx
  · exact own_fr (h.byt x hx) hf (own_apartE (h.byt x hx) h.row (by decide))
  · rw [List.mem_singleton.1 hx]
    exact own_fr hy hf (own_apartE hy h.row (by decide))
/-- append of one entry -/
theorem wpList_append_entry {w : World} {ops : Array Oper} {rest : List Oper} {o : Oper} {a : Act} {Q : Exit → Act → World → Prop} (hgd : o.guard = none) (s x : Operand) {t : TypeId} (hu : Try.prog.underlying t = some (.slice 28))
    (ho : o.op = .call { callee := .builtin .append, args := #[s, x], argTypes := #[t, t] })
    {base : Nat} {A : Option Addr} {c : Nat} {L : List EV} {y : EV} {g : Nat} (hs : a.eval s = .slice A L.length c) (hown : OwE w base A c L) (hx : a.eval x = .slice (some ⟨g, 0, none⟩) 1 1) (hr : Rd w (fun _ => True) 4 (some ⟨g, 0, none⟩) 1 (EV.cells y))
    (hsum : L.length + 1 ≤ 1099511627776) (hbase : base ≤ w.heap.size)
    (h : ∀ (A' : Option Addr) (c' : Nat) (w' : World), OwE w' base A' c' (L ++ [y]) → Below base w w' → (∀ k, k < w.heap.size → (Value.slice A L.length c).ownBlock ≠ some k → w'.heap[k]? = w.heap[k]?) → wpList Try.prog ops Q rest (a.put o.dst (.slice A' (L.length + 1) c')) w') : wpList Try.prog ops Q (o :: rest) a w := by
  obtain ⟨i0, hi0, hz0, hz1, hz2⟩ := info_parts entry_info
  refine wpList_append_any w hgd s x _ ho base 28 i0 _ 4 56 hu hi0 hz0 hz1 hz2 rfl (by omega) (.slice A L.length c) L.length (L.flatMap EV.cells) hs hown _ _ 1 1 (EV.cells y) hx hr (fun u hu => entry_one [y] u (by simpa using hu)) (by simp only [maxLen]; omega) (by omega) hbase ?_
  intro v' w' h1 h2 h3
  obtain ⟨A', c', rfl, _⟩ := own_form h1
  refine h A' c' w' ?_ (grown_below h2 hbase (fun g e => (hown.lt g e).1)) (fun k hk hne => h2.block k hk (fun e => hne e.symm))
  unfold OwE
  rw [List.length_append, List.flatMap_append, List.flatMap_cons, List.flatMap_nil, List.append_nil]
  exact h1
end Go.Proofs.Ytdnljmncdbcgeaa

/- book.Book: Entries. -/
namespace Go.Proofs.Ytdnljmncdbcgeaa
open Go.RowKit

/-- an entry, plainly -/
def EV.pl (o : EV) : List UInt8 × Int × Int × List UInt8 := (tl o.p, o.v, o.k, o.x.l)
theorem txt_atE {w : World} {base : Nat} {A : Option Addr} {c : Nat} {l : List (List UInt8)} {n : Nat} (hn : n = l.length) (h : w.ownsRow base 9 1 (.slice A n c) n (l.map stv)) {i : Nat} (hi : i < l.length) :
    ∃ b off, A = some ⟨b, off, none⟩ ∧ b < w.heap.size ∧ w.cell? ⟨b, off + i, none⟩ = some (stv l[i]) := by
  have hr : Rd w (fun _ => True) 1 A n (l.map stv) := Rd.of_own h (fun _ _ _ => trivial)
  obtain ⟨b, off, hA, _, hb, hc⟩ := hr.2 (by omega)
  exact ⟨b, off, hA, hb, hc i _ (by rw [List.getElem?_map, List.getElem?_eq_getElem hi]; rfl)⟩
set_option maxRecDepth 100000 in
set_option maxHeartbeats 1000000 in
theorem bookEntries_any (bb : Nat) (mo : Option Nat) (L : List (List UInt8 × EV)) (s : Int) (w : World) (h : BookAt w bb mo L s) :
    Calls Try.prog 17 #[.pointer (some ⟨bb, 0, none⟩)] w fun e w' => ∃ (A : Option Addr) (c : Nat) (M : List EV), e = .returned (.slice A M.length c) ∧ Hid (M.map EV.pl = plainB L) ∧ EsOwn w' w.heap.size A c M ∧ Below w.heap.size w w' := by
  have HP := Lib.hid (bookPaths_any bb mo L s w h)
  have HB := Lib.hid h
  have HK := Lib.hid (fun x (hx : x ∈ L) => h.keys hx)
  have HS := Lib.hid h.sort
  have HPL : Hid ((L.map fun x => x.2.pl) = plainB L) := Lib.hid h.pl
  have hll := h.len
  clear h
  go_enter Try.func17, Try.ntmps17
  go_wp2_with fail
  refine HP.out.mono ?_
  rintro e w1 ⟨A1, c1, rfl, ho, hb1⟩
  have HO := Lib.hid ho
  clear HP ho
  go_wp2_with fail
  go_loopw [2, 8] (fun ov iv wr => ∃ (i : Nat) (A : Option Addr) (c : Nat) (M : List EV), i ≤ L.length ∧ iv = .int .i64 (i : Int) ∧ ov = .slice A M.length c ∧ Hid (M.map EV.pl = (L.take i).map fun x => x.2.pl) ∧ M.length = i ∧ EsOwn wr w1.heap.size A c M ∧ Below w1.heap.size w1 wr) (fun _ iv _ => L.length - (intOf iv).toNat)
  case atStart => exact ⟨0, none, 0, [], Nat.zero_le _, rfl, rfl, rfl, rfl, EsOwn.nil _ _, Below.refl _ _⟩
  case round =>
    obtain ⟨i, A, c, M, hi, rfl, rfl, hM, hMi, hO, hb⟩ := hrel
    have hw1r := hb1.trans (hb.mono hb1.size)
    by_cases hlt : i < L.length
    · have hkl : (keysR L).length = L.length := keys_len L
      obtain ⟨b, off, hA, hbb, c0⟩ := txt_atE hkl.symm (own_below HO.out hb) (i := i) (by rw [hkl]; exact hlt)
      have hli : (keysR L)[i]'(by rw [hkl]; exact hlt) = L[i].1 := by simp [keysR]
      rw [hli] at c0
      have hm := List.getElem_mem hlt
      have hge : gotE L L[i].1 = L[i].2 := by unfold gotE; rw [HS.out.get hm]; rfl
      have HG := bookGet_any bb mo L s L[i].1 wr (HB.out.below hw1r) (by have := HK.out _ hm; simp only [maxLen]; omega)
      rw [hge] at HG
      have hps : (L.take (i + 1)).map (fun x => x.2.pl) = (L.take i).map (fun x => x.2.pl) ++ [L[i].2.pl] := by rw [List.take_succ_eq_append_getElem hlt, List.map_append]; rfl
      subst hA
      obtain ⟨x, hx⟩ : ∃ x, x = L[i] := ⟨_, rfl⟩
      rw [← hx] at c0 hps HG
      simp only [stv] at c0
      have HPS := Lib.hid hps
      have hMe := Lib.hid hMi
      replace HG := Lib.hid HG
      clear hps hge hx hli hm hkl
      go_wp2_with fail
      refine HG.out.mono ?_
      rintro e w2 ⟨q, v, k, A2, c2, l2, rfl, he, ho2, hb2⟩
      obtain ⟨y, hy⟩ : ∃ y : EV, y = ⟨q, v, k, ⟨A2, c2, l2⟩⟩ := ⟨_, rfl⟩
      have hw2 := hb.trans (hb2.mono hb.size)
      have ho3 : OwB w2 w1.heap.size (.slice y.x.A y.x.l.length y.x.c) y.x.l := by
        rw [hy]
        exact own_base ho2 (fun g hg => Nat.le_trans hb.size (ho2.lt g hg).1)
      have hpy : y.pl = x.2.pl := by
        obtain ⟨e1, e2, e3, e4⟩ := he.out
        rw [hy]
        unfold EV.pl
        dsimp only
        rw [e1, e2, e3, e4]
      have hba : Below w1.heap.size w1 (w2.alloc (.cells #[.string q, .int .u64 v, .int .i64 k, .slice A2 l2.length c2] 28)) := hw2.alloc hw2.size _
      have hal : Below w2.heap.size w2 (w2.alloc (.cells #[.string q, .int .u64 v, .int .i64 k, .slice A2 l2.length c2] 28)) := (Below.refl _ w2).alloc (Nat.le_refl _) _
      have hO3 := Lib.hid ((hO.below hb2).below hal)
      have ho4 := Lib.hid (own_below ho3 hal)
      have ra : Hid (Rd (w2.alloc (.cells #[.string q, .int .u64 v, .int .i64 k, .slice A2 l2.length c2] 28)) (fun _ => True) 4 (some ⟨w2.heap.size, 0, none⟩) 1 (EV.cells y)) := (Rd.lit (w := w2) (t := 28) (size := 4) (n := 1) (xs := EV.cells y) (by rw [hy]; rfl) rfl rfl).mono (fun _ _ _ => trivial)
      have HN : Hid ((M ++ [y]).map EV.pl = (L.take (i + 1)).map fun x => x.2.pl) := by
        show _ = _
        rw [List.map_append, List.map_cons, List.map_nil, hpy, HPS.out, hM.out]
      have hlb := Lib.hid (show M.length + 1 ≤ 1099511627776 by omega)
      clear hO ho2 ho3 hal hb2 he hpy hy HPS HG hM hb c0 hMi
      go_wp2_with (at_builtin; refine wpList_append_entry rfl (.tmp 12) (.tmp 16) (t := 22) rfl rfl rfl hO3.out.row rfl ra.out hlb.out hba.size ?_; intro A5 c5 w5 ho5 hb5 hk5)
      have hb6 := hba.trans hb5
      have hO5 := hO3.out.push ho4.out ho5 hb5 hk5
      have hl5 : (M ++ [y]).length = i + 1 := by rw [List.length_append, hMe.out]; rfl
      go_roundw
      case rel => exact ⟨i + 1, A5, c5, M ++ [y], hlt, by go_num, by simp, HN, hl5, hO5, hb6⟩
      case measure => simp [intOf]; omega
    · have e : i = L.length := by omega
      subst e
      have HN : Hid (M.map EV.pl = plainB L) := by
        show _ = _
        rw [hM.out, List.take_length, HPL.out]
      clear hM hMi
      go_wp2_with fail
      go_ret
      exact ⟨A, c, M, rfl, HN.out, hO.base hb1.size, hw1r⟩
end Go.Proofs.Ytdnljmncdbcgeaa

/- tenderref22: the document's book as a value; Get. -/
namespace Go.Proofs.Ytdnljmncdbcgeaa
open Go.RowKit

/-- a row of entries, to be read -/
structure EsR (w : World) (A : Option Addr) (M : List EV) : Prop where
  rd : Rd w (fun _ => True) 4 A M.length (M.flatMap EV.cells)
  ok : ∀ x ∈ M, x.x.ok w (fun _ => True)
  len : M.length ≤ 1000000
theorem EsR.below {w w' : World} {A : Option Addr} {M : List EV} (h : EsR w A M) (k : Below w.heap.size w w') : EsR w' A M := ⟨h.rd.below k, fun x hx => (h.ok x hx).below k, h.len⟩
theorem ev_cells_len (x : EV) : x.cells.length = 4 := rfl
theorem EsR.at_ {w : World} {A : Option Addr} {M : List EV} {i : Nat} (h : EsR w A M) (hi : i < M.length) :
    ∃ b off, A = some ⟨b, off, none⟩ ∧ b < w.heap.size ∧ w.cell? ⟨b, off + i * 4, none⟩ = some (.string M[i].p) ∧ w.cell? ⟨b, off + i * 4 + 1, none⟩ = some (.int .u64 M[i].v) ∧ w.cell? ⟨b, off + i * 4 + 2, none⟩ = some (.int .i64 M[i].k) ∧ w.cell? ⟨b, off + i * 4 + 3, none⟩ = some (.slice M[i].x.A M[i].x.l.length M[i].x.c) := by
  obtain ⟨b, off, hA, _, hb, hc⟩ := h.rd.2 (by omega)
  have hg : ∀ j, j < 4 → (M.flatMap EV.cells)[i * 4 + j]? = (EV.cells M[i])[j]? := fun j hj => flat_get (k := 4) ev_cells_len M i j hi hj
  refine ⟨b, off, hA, hb, hc _ _ (hg 0 (by omega)), ?_, ?_, ?_⟩
  · rw [Nat.add_assoc]; exact hc _ _ (hg 1 (by omega))
  · rw [Nat.add_assoc]; exact hc _ _ (hg 2 (by omega))
  · rw [Nat.add_assoc]; exact hc _ _ (hg 3 (by omega))
/-- the first entry of a path, or one of nothing -/
def findE (p : ByteArray) : List EV → EV
  | [] => ⟨p, 0, 0, ⟨none, 0, []⟩⟩
  | x :: l => if x.p = p then x else findE p l
theorem findE_cons (p : ByteArray) (x : EV) (l : List EV) : findE p (x :: l) = if x.p = p then x else findE p l := rfl

set_option maxRecDepth 100000 in
set_option maxHeartbeats 1000000 in
theorem refGet22_any (A : Option Addr) (c : Nat) (M : List EV) (s : Int) (p : ByteArray) (w : World) (h : EsR w A M) :
    Calls Try.prog 21 #[.agg #[.int .u64 s, .slice A M.length c], .string p] w fun e w' => (∃ o : EV, e = .returned (.agg #[.string o.p, .int .u64 o.v, .int .i64 o.k, .slice o.x.A o.x.l.length o.x.c]) ∧ Hid (o = findE p M)) ∧ Below w.heap.size w w' := by
  have hw2 : Below w.heap.size w ((w.alloc (.cells #[.int .u64 s, .slice A M.length c] 33)).alloc (.cells #[.string ⟨#[]⟩, .int .u64 0, .int .i64 0, .slice none 0 0] 28)) := ((Below.refl _ _).alloc (Nat.le_refl _) _).alloc (by simp) _
  have x0 : Blk ((w.alloc (.cells #[.int .u64 s, .slice A M.length c] 33)).alloc (.cells #[.string ⟨#[]⟩, .int .u64 0, .int .i64 0, .slice none 0 0] 28)) w.heap.size 33 #[.int .u64 s, .slice A M.length c] := (Blk.new w 33 #[.int .u64 s, .slice A M.length c]).below ((Below.refl _ _).alloc (Nat.le_refl _) _)
  have x1 : Blk ((w.alloc (.cells #[.int .u64 s, .slice A M.length c] 33)).alloc (.cells #[.string ⟨#[]⟩, .int .u64 0, .int .i64 0, .slice none 0 0] 28)) (w.heap.size + 1) 28 #[.string ⟨#[]⟩, .int .u64 0, .int .i64 0, .slice none 0 0] := by
    have := Blk.new (w.alloc (.cells #[.int .u64 s, .slice A M.length c] 33)) 28 #[.string ⟨#[]⟩, .int .u64 0, .int .i64 0, .slice none 0 0]
    rwa [show (w.alloc (.cells #[.int .u64 s, .slice A M.length c] 33)).heap.size = w.heap.size + 1 by simp] at this
  have HF := Lib.hid (h.below hw2)
  have hlen := h.len
  clear h
  go_enter Try.func21, Try.ntmps21
  go_upto_region 1 with (fail)
  generalize ((w.alloc (.cells #[.int .u64 s, .slice A M.length c] 33)).alloc (.cells #[.string ⟨#[]⟩, .int .u64 0, .int .i64 0, .slice none 0 0] 28)) = w2 at *
  have b1 := x0.cell 1
  simp only [List.getElem?_toArray, List.getElem?_cons_zero, List.getElem?_cons_succ] at b1
  go_wp2_with fail
  go_loopw [5] (fun iv wr => ∃ i : Nat, i ≤ M.length ∧ iv = .int .i64 (i : Int) ∧ Hid (findE p M = findE p (M.drop i)) ∧ wr = w2) (fun iv _ => M.length - (intOf iv).toNat)
  case atStart => exact ⟨0, Nat.zero_le _, rfl, rfl, rfl⟩
  case round =>
    obtain ⟨i, hi, rfl, hg, rfl⟩ := hrel
    by_cases hlt : i < M.length
    · obtain ⟨b, off, hA, hbb, c0, c1, c2, c3⟩ := HF.out.at_ hlt
      have hd : M.drop i = M[i] :: M.drop (i + 1) := List.drop_eq_getElem_cons hlt
      have hg2 := hg.out
      rw [hd, findE_cons] at hg2
      generalize M[i] = o at *
      subst hA
      by_cases he : o.p = p
      · rw [if_pos he] at hg2
        have HG := Lib.hid (show o = findE p M from hg2.symm)
        have heq := eq_yes he
        have r0 := x1.cell 0
        have r1 := x1.cell 1
        have r2 := x1.cell 2
        have r3 := x1.cell 3
        simp only [List.getElem?_toArray, List.getElem?_cons_zero, List.getElem?_cons_succ] at r0 r1 r2 r3
        have fr := fun o => x1.frozen o
        clear hd hg2 hg he
        go_wp2_with fail
        have kR : Fr (fun x => x = w.heap.size + 1) wr ((((wr.setCell ⟨w.heap.size + 1, 0, none⟩ (.string o.p)).setCell ⟨w.heap.size + 1, 1, none⟩ (.int .u64 o.v)).setCell ⟨w.heap.size + 1, 2, none⟩ (.int .i64 o.k)).setCell ⟨w.heap.size + 1, 3, none⟩ (.slice o.x.A o.x.l.length o.x.c)) := (((((Fr.refl (fun x => x = w.heap.size + 1) wr).setAt (w.heap.size + 1) _ rfl _).setAt (w.heap.size + 1) _ rfl _).setAt (w.heap.size + 1) _ rfl _).setAt (w.heap.size + 1) _ rfl _)
        have yR := ((((x1.set_ 0 (.string o.p)).set_ 1 (.int .u64 o.v)).set_ 2 (.int .i64 o.k)).set_ 3 (.slice o.x.A o.x.l.length o.x.c))
        simp only [List.setIfInBounds_toArray, List.set_cons_zero, List.set_cons_succ] at yR
        have hwR : Below w.heap.size w ((((wr.setCell ⟨w.heap.size + 1, 0, none⟩ (.string o.p)).setCell ⟨w.heap.size + 1, 1, none⟩ (.int .u64 o.v)).setCell ⟨w.heap.size + 1, 2, none⟩ (.int .i64 o.k)).setCell ⟨w.heap.size + 1, 3, none⟩ (.slice o.x.A o.x.l.length o.x.c)) := hw2.trans (kR.below (B := w.heap.size) hw2.size (fun k hk e => by omega))
        generalize ((((wr.setCell ⟨w.heap.size + 1, 0, none⟩ (.string o.p)).setCell ⟨w.heap.size + 1, 1, none⟩ (.int .u64 o.v)).setCell ⟨w.heap.size + 1, 2, none⟩ (.int .i64 o.k)).setCell ⟨w.heap.size + 1, 3, none⟩ (.slice o.x.A o.x.l.length o.x.c)) = wR at *
        have s0 := yR.cell 0
        have s1 := yR.cell 1
        have s2 := yR.cell 2
        have s3 := yR.cell 3
        simp only [List.getElem?_toArray, List.getElem?_cons_zero, List.getElem?_cons_succ] at s0 s1 s2 s3
        refine bodyPost_ret (v := .agg #[.string o.p, .int .u64 o.v, .int .i64 o.k, .slice o.x.A o.x.l.length o.x.c]) (by simp [results, Try.results21, go_sem, s0, s1, s2, s3]) rfl ?_
        exact ⟨⟨o, rfl, HG.out⟩, hwR⟩
      · rw [if_neg he] at hg2
        have HG : Hid (findE p M = findE p (M.drop (i + 1))) := Lib.hid hg2
        have heq := eq_no he
        clear hd hg2 hg he c1 c2 c3
        go_wp2_with fail
        go_roundw
        case rel => exact ⟨i + 1, hlt, by go_num, HG.out, trivial⟩
        case measure => simp [intOf]; omega
    · have e : i = M.length := by omega
      subst e
      have HG : Hid (⟨p, 0, 0, ⟨none, 0, []⟩⟩ = findE p M) := Lib.hid (by rw [hg.out, List.drop_length]; rfl)
      have r0 := x1.cell 0
      have r1 := x1.cell 1
      have r2 := x1.cell 2
      have r3 := x1.cell 3
      simp only [List.getElem?_toArray, List.getElem?_cons_zero, List.getElem?_cons_succ] at r0 r1 r2 r3
      have fr := fun o => x1.frozen o
      clear hg
      go_wp2_with fail
      have kR : Fr (fun x => x = w.heap.size + 1) wr ((((wr.setCell ⟨w.heap.size + 1, 0, none⟩ (.string p)).setCell ⟨w.heap.size + 1, 1, none⟩ (.int .u64 0)).setCell ⟨w.heap.size + 1, 2, none⟩ (.int .i64 0)).setCell ⟨w.heap.size + 1, 3, none⟩ (.slice none 0 0)) := (((((Fr.refl (fun x => x = w.heap.size + 1) wr).setAt (w.heap.size + 1) _ rfl _).setAt (w.heap.size + 1) _ rfl _).setAt (w.heap.size + 1) _ rfl _).setAt (w.heap.size + 1) _ rfl _)
      have yR := ((((x1.set_ 0 (.string p)).set_ 1 (.int .u64 0)).set_ 2 (.int .i64 0)).set_ 3 (.slice none 0 0))
      simp only [List.setIfInBounds_toArray, List.set_cons_zero, List.set_cons_succ] at yR
      have hwR : Below w.heap.size w ((((wr.setCell ⟨w.heap.size + 1, 0, none⟩ (.string p)).setCell ⟨w.heap.size + 1, 1, none⟩ (.int .u64 0)).setCell ⟨w.heap.size + 1, 2, none⟩ (.int .i64 0)).setCell ⟨w.heap.size + 1, 3, none⟩ (.slice none 0 0)) := hw2.trans (kR.below (B := w.heap.size) hw2.size (fun k hk e => by omega))
      generalize ((((wr.setCell ⟨w.heap.size + 1, 0, none⟩ (.string p)).setCell ⟨w.heap.size + 1, 1, none⟩ (.int .u64 0)).setCell ⟨w.heap.size + 1, 2, none⟩ (.int .i64 0)).setCell ⟨w.heap.size + 1, 3, none⟩ (.slice none 0 0)) = wR at *
      have s0 := yR.cell 0
      have s1 := yR.cell 1
      have s2 := yR.cell 2
      have s3 := yR.cell 3
      simp only [List.getElem?_toArray, List.getElem?_cons_zero, List.getElem?_cons_succ] at s0 s1 s2 s3
      refine bodyPost_ret (v := .agg #[.string p, .int .u64 0, .int .i64 0, .slice none 0 0]) (by simp [results, Try.results21, go_sem, s0, s1, s2, s3]) rfl ?_
      exact ⟨⟨_, rfl, HG.out⟩, hwR⟩

end Go.Proofs.Ytdnljmncdbcgeaa

/- A row with one more, told from the left. No program. -/
namespace Go.Proofs.Ytdnljmncdbcgeaa

/-- something stands behind it -/
def behR {α : Type} (p : List UInt8) (L : List (List UInt8 × α)) : Bool := L.any fun x => decide (0 < cmpT x.1 p)
theorem ins_none {α : Type} (p : List UInt8) (v : α) : ∀ (L : List (List UInt8 × α)), behR p L = false → insR p v L = L ++ [(p, v)]
  | [], _ => rfl
  | x :: L, h => by
    simp only [behR, List.any_cons, Bool.or_eq_false_iff, decide_eq_false_iff_not] at h
    rw [insR, if_neg h.1, ins_none p v L h.2]
    rfl
theorem ins_here {α : Type} (p : List UInt8) (v : α) (x : List UInt8 × α) (hx : 0 < cmpT x.1 p) : ∀ (L : List (List UInt8 × α)), behR p L = false → insR p v (L ++ [x]) = L ++ [(p, v)] ++ [x]
  | [], _ => by rw [List.nil_append, insR, if_pos hx]; rfl
  | y :: L, h => by
    simp only [behR, List.any_cons, Bool.or_eq_false_iff, decide_eq_false_iff_not] at h
    rw [List.cons_append, insR, if_neg h.1, ins_here p v x hx L h.2]
    rfl
theorem ins_done {α : Type} (p : List UInt8) (v : α) (x : List UInt8 × α) : ∀ (L : List (List UInt8 × α)), behR p L = true → insR p v (L ++ [x]) = insR p v L ++ [x]
  | [], h => by simp [behR] at h
  | y :: L, h => by
    rw [List.cons_append, insR, insR]
    split
    · rfl
    · rename_i hy
      have : behR p L = true := by
        simp only [behR, List.any_cons, Bool.or_eq_true, decide_eq_true_eq] at h ⊢
        exact h.resolve_left hy
      rw [ins_done p v x L this]
      rfl
theorem beh_snoc {α : Type} (p : List UInt8) (L : List (List UInt8 × α)) (x : List UInt8 × α) : behR p (L ++ [x]) = (behR p L || decide (0 < cmpT x.1 p)) := by simp [behR]
/-- what Put has, of the first ones -/
def midR {α : Type} (p : List UInt8) (v : α) (L : List (List UInt8 × α)) : List (List UInt8 × α) := if behR p L = true then insR p v L else L
end Go.Proofs.Ytdnljmncdbcgeaa

/- tenderref03: less, bytes, Compare. -/
namespace Go.Proofs.Ytdnljmncdbcgeaa
open Go.RowKit

/-- how two numbers stand -/
def cmpN (a b : Int) : Int := if a < b then -1 else if b < a then 1 else 0
theorem less_any (a b : Int) (w : World) : Calls Try.prog 117 #[.int .i64 a, .int .i64 b] w fun e w' => e = .returned (.int .i64 (cmpN a b)) ∧ w = w' := by
  obtain ⟨R, hR⟩ : ∃ R, R = cmpN a b := ⟨_, rfl⟩
  rw [← hR]
  have HR := Lib.hid hR
  clear hR
  go_enter Try.func117, Try.ntmps117
  go_wp2_with fail
  all_goals
    go_ret
    refine ⟨ret_i ?_, rfl⟩
    rw [HR.out]
    unfold cmpN
    first
      | (rw [if_pos (by assumption)])
      | (rw [if_neg (by omega), if_pos (by assumption)])
      | (rw [if_neg (by omega), if_neg (by omega)])
/-- two texts that are alike so far stand as what is left of them -/
theorem cmpB_take : ∀ (i : Nat) (a b : List UInt8), a.take i = b.take i → i ≤ a.length → i ≤ b.length → cmpB a b = cmpB (a.drop i) (b.drop i)
  | 0, _, _, _, _, _ => rfl
  | i + 1, [], _, _, h, _ => by simp at h
  | i + 1, _ :: _, [], _, _, h => by simp at h
  | i + 1, x :: a, y :: b, h, ha, hb => by
    rw [List.take_succ_cons, List.take_succ_cons] at h
    injection h with h1 h2
    subst h1
    have ih := cmpB_take i a b h2 (by simpa using ha) (by simpa using hb)
    rw [List.drop_succ_cons, List.drop_succ_cons, ← ih]
    show cmpL cmp1 (x :: a) (x :: b) = _
    rw [cmpL, if_pos ((ord1.eq x x).2 rfl)]
    rfl
theorem cmpP_take : ∀ (i : Nat) (a b : List (List UInt8)), a.take i = b.take i → i ≤ a.length → i ≤ b.length → cmpP a b = cmpP (a.drop i) (b.drop i)
  | 0, _, _, _, _, _ => rfl
  | i + 1, [], _, _, h, _ => by simp at h
  | i + 1, _ :: _, [], _, _, h => by simp at h
  | i + 1, x :: a, y :: b, h, ha, hb => by
    rw [List.take_succ_cons, List.take_succ_cons] at h
    injection h with h1 h2
    subst h1
    have ih := cmpP_take i a b h2 (by simpa using ha) (by simpa using hb)
    rw [List.drop_succ_cons, List.drop_succ_cons, ← ih]
    show cmpL cmpB (x :: a) (x :: b) = _
    rw [cmpL, if_pos (cmpB_self x)]
    rfl
theorem cmpL_ends {α : Type} (c : α → α → Int) (a b : List α) (h : a = [] ∨ b = []) : cmpL c a b = cmpN a.length b.length := by
  rcases h with rfl | rfl
  · cases b with
    | nil => rfl
    | cons y b => simp [cmpL, cmpN]
  · cases a with
    | nil => rfl
    | cons y b => simp [cmpL, cmpN]; omega
theorem cmpN_add (a b k : Int) : cmpN (a + k) (b + k) = cmpN a b := by
  unfold cmpN
  split <;> split <;> first | rfl | omega | (split <;> first | rfl | omega)
theorem cmpB_hd {x y : UInt8} {a b : List UInt8} (h : cmp1 x y ≠ 0) : cmpB (x :: a) (y :: b) = cmp1 x y := by
  show cmpL cmp1 _ _ = _
  rw [cmpL, if_neg h]

set_option maxRecDepth 100000 in
set_option maxHeartbeats 1000000 in
theorem bytes_any (s t : ByteArray) (hs : s.size ≤ 1048576) (_ : t.size ≤ 1048576) (w : World) : Calls Try.prog 116 #[.string s, .string t] w fun e w' => e = .returned (.int .i64 (cmpB (tl s) (tl t))) ∧ Qt w w' := by
  obtain ⟨R, hR⟩ : ∃ R, R = cmpB (tl s) (tl t) := ⟨_, rfl⟩
  rw [← hR]
  have HR := Lib.hid hR
  clear hR
  go_enter Try.func116, Try.ntmps116
  go_wp2_with fail
  go_loopw [5] (fun iv wr => ∃ i : Nat, i ≤ s.size ∧ i ≤ t.size ∧ iv = .int .i64 (i : Int) ∧ Hid ((tl s).take i = (tl t).take i) ∧ Qt w wr) (fun iv _ => s.size - (intOf iv).toNat)
  case atStart => exact ⟨0, Nat.zero_le _, Nat.zero_le _, rfl, rfl, Qt.refl _⟩
  case round =>
    obtain ⟨i, hi, hj, rfl, hz, hq⟩ := hrel
    by_cases hlt : i < s.size ∧ i < t.size
    · obtain ⟨h1, h2⟩ := hlt
      have g1 : (tl s)[i]? = some s[i] := by rw [List.getElem?_eq_getElem (by rw [tl_len]; exact h1)]; rfl
      have g2 : (tl t)[i]? = some t[i] := by rw [List.getElem?_eq_getElem (by rw [tl_len]; exact h2)]; rfl
      have d1 : (tl s).drop i = s[i] :: (tl s).drop (i + 1) := by rw [List.drop_eq_getElem_cons (by rw [tl_len]; exact h1)]; rfl
      have d2 : (tl t).drop i = t[i] :: (tl t).drop (i + 1) := by rw [List.drop_eq_getElem_cons (by rw [tl_len]; exact h2)]; rfl
      have HC : Hid (∀ v, cmp1 s[i] t[i] = v → v ≠ 0 → R = v) := by
        intro v hv h0
        rw [HR.out, cmpB_take i _ _ hz.out (by rw [tl_len]; omega) (by rw [tl_len]; omega), d1, d2, cmpB_hd (by rw [hv]; exact h0), hv]
      have HN : Hid (s[i] = t[i] → (tl s).take (i + 1) = (tl t).take (i + 1)) := by
        intro e
        rw [List.take_add_one, List.take_add_one, hz.out, g1, g2, e]
      clear g1 g2 d1 d2 hz
      go_wp2_with fail
      go_quiet (fail)
      go_wp2_with fail
      · have hl : s[i].toNat < t[i].toNat := by assumption
        go_ret
        refine ⟨ret_i (HC.out _ (by unfold cmp1; rw [if_pos (by omega)]) (by omega)).symm, hq.trans ⟨_, rfl⟩⟩
      · have hl : ¬ s[i].toNat < t[i].toNat := by assumption
        go_quiet (fail)
        go_wp2_with fail
        · have hl2 : t[i].toNat < s[i].toNat := by assumption
          go_ret
          refine ⟨ret_i (HC.out _ (by unfold cmp1; rw [if_neg (by omega), if_pos (by omega)]) (by omega)).symm, (hq.trans ⟨_, rfl⟩).trans ⟨_, rfl⟩⟩
        · have hl2 : ¬ t[i].toNat < s[i].toNat := by assumption
          go_roundw
          case rel => exact ⟨i + 1, h1, h2, by go_num, HN.out (UInt8.toNat_inj.1 (by omega)), hq.trans ⟨_, rfl⟩⟩
          case measure => simp [intOf]; omega
    · have hor : (s.size : Int) ≤ (i : Int) ∨ (i : Int) < (s.size : Int) ∧ (t.size : Int) ≤ (i : Int) := by omega
      rcases hor with h1 | ⟨h1, h2⟩
      all_goals
        clear hlt
        go_wp2_with (go_at_call 117; refine (less_any _ _ _).mono ?_; rintro e w2 ⟨rfl, rfl⟩)
        go_ret
        refine ⟨ret_i ?_, hq⟩
        have e := HR.out
        rw [cmpB_take i _ _ hz.out (by rw [tl_len]; omega) (by rw [tl_len]; omega)] at e
        rw [e]
        unfold cmpB
        rw [cmpL_ends cmp1 _ _ (by
          rcases (show s.size ≤ i ∨ t.size ≤ i by omega) with h | h
          · exact .inl (List.drop_of_length_le (by rw [tl_len]; exact h))
          · exact .inr (List.drop_of_length_le (by rw [tl_len]; exact h))), List.length_drop, List.length_drop, tl_len, tl_len]
        have := cmpN_add ((s.size - i : Nat) : Int) ((t.size - i : Nat) : Int) (i : Int)
        rw [← this]
        congr 1 <;> omega

/-- how two rows stand when they are alike so far and then part -/
theorem cmpP_at {i : Nat} {a b : List (List UInt8)} {x y : List UInt8} (h : a.take i = b.take i) (hx : a[i]? = some x) (hy : b[i]? = some y) (hne : cmpB x y ≠ 0) : cmpP a b = cmpB x y := by
  obtain ⟨h1, rfl⟩ := List.getElem?_eq_some_iff.1 hx
  obtain ⟨h2, rfl⟩ := List.getElem?_eq_some_iff.1 hy
  rw [cmpP_take i a b h (by omega) (by omega), List.drop_eq_getElem_cons h1, List.drop_eq_getElem_cons h2]
  show cmpL cmpB _ _ = _
  rw [cmpL, if_neg hne]

set_option maxRecDepth 100000 in
set_option maxHeartbeats 1000000 in
theorem refCompare_any (s t : ByteArray) (hs : s.size ≤ 1048576) (ht : t.size ≤ 1048576) (w : World) : Calls Try.prog 62 #[.string s, .string t] w fun e w' => e = .returned (.int .i64 (cmpT (tl s) (tl t))) ∧ Below w.heap.size w w' := by
  obtain ⟨R, hR⟩ : ∃ R, R = cmpT (tl s) (tl t) := ⟨_, rfl⟩
  rw [← hR]
  have HR := Lib.hid hR
  clear hR
  go_enter Try.func62, Try.ntmps62
  go_wp2_with fail
  refine (refCut_any s hs _).mono ?_
  rintro e w1 ⟨A, c, x, rfl, hx, hsx, hb⟩
  go_wp2_with fail
  refine (refCut_any t ht _).mono ?_
  rintro e w2 ⟨A', c', y, rfl, hy, hsy, hb2⟩
  replace hsx := hsx.below hb2
  have hbb := bthen hb hb2
  have hxl : x.length ≤ 1048577 := by
    have := cutL_len (tl s)
    rw [hx.out]
    rw [tl_len] at this
    omega
  have hyl : y.length ≤ 1048577 := by
    have := cutL_len (tl t)
    rw [hy.out]
    rw [tl_len] at this
    omega
  have hxm : ∀ z ∈ x, z.length ≤ 1048576 := by
    intro z hz
    rw [hx.out] at hz
    have := cut_mem_len _ _ hz
    rw [tl_len] at this
    omega
  have hym : ∀ z ∈ y, z.length ≤ 1048576 := by
    intro z hz
    rw [hy.out] at hz
    have := cut_mem_len _ _ hz
    rw [tl_len] at this
    omega
  have HR2 : Hid (R = cmpP x y) := by show _ = _; rw [HR.out, hx.out, hy.out]; rfl
  clear HR hx hy hb hb2
  go_wp2_with fail
  go_loopw [7] (fun iv wr => ∃ i : Nat, i ≤ x.length ∧ i ≤ y.length ∧ iv = .int .i64 (i : Int) ∧ Hid (x.take i = y.take i) ∧ Qt w2 wr) (fun iv _ => x.length - (intOf iv).toNat)
  case atStart => exact ⟨0, Nat.zero_le _, Nat.zero_le _, rfl, rfl, Qt.refl _⟩
  case round =>
    obtain ⟨i, hi, hj, rfl, hz, hq⟩ := hrel
    by_cases hlt : i < x.length ∧ i < y.length
    · obtain ⟨h1, h2⟩ := hlt
      obtain ⟨xi, hxi⟩ : ∃ z, x[i]? = some z := ⟨_, List.getElem?_eq_getElem h1⟩
      obtain ⟨yi, hyi⟩ : ∃ z, y[i]? = some z := ⟨_, List.getElem?_eq_getElem h2⟩
      obtain ⟨g, off, rfl, hgb, hgl, hcell, hfz⟩ := (hsx.below hq.below).get hxi
      obtain ⟨g', off', rfl, hgb', hgl', hcell', hfz'⟩ := (hsy.below hq.below).get hyi
      obtain ⟨C, hC⟩ : ∃ C, C = cmpB xi yi := ⟨_, rfl⟩
      have HB : Hid (∀ w, Calls Try.prog 116 #[.string ⟨⟨xi⟩⟩, .string ⟨⟨yi⟩⟩] w fun e w' => e = .returned (.int .i64 C) ∧ Qt w w') := by
        intro w
        rw [hC]
        exact bytes_any ⟨⟨xi⟩⟩ ⟨⟨yi⟩⟩ (hxm _ (List.mem_of_getElem? hxi)) (hym _ (List.mem_of_getElem? hyi)) w
      have HC : Hid (C ≠ 0 → R = C) := by
        intro h0
        rw [HR2.out, cmpP_at hz.out hxi hyi (by rw [← hC]; exact h0), hC]
      have HN : Hid (C = 0 → x.take (i + 1) = y.take (i + 1)) := by
        intro e
        rw [hC] at e
        rw [List.take_add_one, List.take_add_one, hz.out, hxi, hyi, (ordB.eq _ _).1 e]
      clear hxi hyi hC hz hfz hfz'
      unfold stv at hcell hcell'
      go_wp2_with fail
      go_quiet ((go_at_call 116; exact Calls.quiet_of (HB.out _)))
      by_cases hC0 : C = 0
      · have HN2 := Lib.hid (HN.out hC0)
        subst hC0
        go_wp2_with fail
        go_roundw
        case rel => exact ⟨i + 1, h1, h2, by go_num, HN2.out, hq.trans ⟨_, rfl⟩⟩
        case measure => simp [intOf]; omega
      · have HN2 := Lib.hid (HC.out hC0)
        have hne : (C == 0) = false := by simpa using hC0
        have hne2 : (C != 0) = true := by simpa using hC0
        go_wp2_with fail
        go_ret
        exact ⟨ret_i HN2.out.symm, hbb.trans ((hq.trans ⟨_, rfl⟩).below.mono hbb.size)⟩
    · have hor : (x.length : Int) ≤ (i : Int) ∨ (i : Int) < (x.length : Int) ∧ (y.length : Int) ≤ (i : Int) := by omega
      rcases hor with h1 | ⟨h1, h2⟩
      all_goals
        clear hlt
        go_wp2_with (go_at_call 117; refine (less_any _ _ _).mono ?_; rintro e w2 ⟨rfl, rfl⟩)
        go_ret
        refine ⟨ret_i ?_, hbb.trans (hq.below.mono hbb.size)⟩
        have e := HR2.out
        rw [cmpP_take i _ _ hz.out (by omega) (by omega)] at e
        rw [e]
        unfold cmpP
        rw [cmpL_ends cmpB _ _ (by
          rcases (show x.length ≤ i ∨ y.length ≤ i by omega) with h | h
          · exact .inl (List.drop_of_length_le h)
          · exact .inr (List.drop_of_length_le h)), List.length_drop, List.length_drop]
        have := cmpN_add ((x.length - i : Nat) : Int) ((y.length - i : Nat) : Int) (i : Int)
        rw [← this]
        congr 1 <;> omega
end Go.Proofs.Ytdnljmncdbcgeaa

/- tenderref22: without, with. -/
namespace Go.Proofs.Ytdnljmncdbcgeaa
open Go.RowKit

/-- rows by their paths -/
def keyE (M : List EV) : List (List UInt8 × EV) := M.map fun y => (tl y.p, y)
theorem val_key (M : List EV) : (keyE M).map (·.2) = M := by simp [keyE, Function.comp_def]
theorem keyE_app (M : List EV) (y : EV) : keyE (M ++ [y]) = keyE M ++ [(tl y.p, y)] := by simp [keyE]
def withoutE (p : ByteArray) (M : List EV) : List EV := M.filter fun x => decide (x.p ≠ p)
def insE (x : EV) (M : List EV) : List EV := (insR (tl x.p) x (keyE M)).map (·.2)
def midE (x : EV) (M : List EV) : List EV := if behR (tl x.p) (keyE M) = true then insE x M else M
theorem insE_none {x : EV} {M : List EV} (h : behR (tl x.p) (keyE M) = false) : insE x M = M ++ [x] := by
  unfold insE
  rw [ins_none _ _ _ h, List.map_append, val_key]
  rfl
theorem insE_here {x y : EV} {M : List EV} (hx : 0 < cmpT (tl y.p) (tl x.p)) (h : behR (tl x.p) (keyE M) = false) : insE x (M ++ [y]) = M ++ [x] ++ [y] := by
  unfold insE
  rw [keyE_app, ins_here _ _ (tl y.p, y) hx _ h, List.map_append, List.map_append, val_key]
  rfl
theorem insE_done {x y : EV} {M : List EV} (h : behR (tl x.p) (keyE M) = true) : insE x (M ++ [y]) = insE x M ++ [y] := by
  unfold insE
  rw [keyE_app, ins_done _ _ (tl y.p, y) _ h, List.map_append]
  rfl
theorem pl_key (M : List EV) : (keyE M).map (fun z => (z.1, z.2.ep)) = M.map EV.pl := by
  unfold keyE
  rw [List.map_map]
  rfl
theorem pl_ins (x : EV) (M : List EV) : (insE x M).map EV.pl = insR (tl x.p) x.ep (M.map EV.pl) := by
  rw [← pl_key M, ins_map EV.ep]
  unfold insE
  rw [List.map_map]
  refine List.map_congr_left fun z hz => ?_
  have : z.1 = tl z.2.p := by
    rcases mem_ins.1 hz with rfl | hz
    · rfl
    · obtain ⟨y, _, rfl⟩ := List.mem_map.1 hz
      rfl
  show z.2.pl = _
  rw [this]
  rfl
theorem pl_without (p : ByteArray) (M : List EV) : (withoutE p M).map EV.pl = withoutR (M.map EV.pl) (tl p) := by
  unfold withoutE withoutR
  rw [List.filter_map]
  congr 1
  refine List.filter_congr fun x _ => ?_
  by_cases h : x.p = p
  · subst h; simp [EV.pl]
  · have : tl x.p ≠ tl p := fun e => h (tl_inj e)
    have h2 : (x.pl.1 == tl p) = false := by simpa [EV.pl] using fun e => h (tl_inj (congrArg Array.toList e))
    simp [h, h2]
theorem find_ver (p : ByteArray) : ∀ M : List EV, (findE p M).v = ((getR (M.map EV.pl) (tl p)).map (·.1)).getD 0
  | [] => rfl
  | x :: M => by
    rw [List.map_cons, getR_cons]
    unfold findE
    by_cases h : x.p = p
    · rw [if_pos h, if_pos (by rw [← h]; rfl)]; rfl
    · rw [if_neg h, if_neg (show ¬ x.pl.1 = tl p from fun e => h (tl_inj e)), find_ver p M]
theorem without_lenE (p : ByteArray) (M : List EV) : (withoutE p M).length ≤ M.length := List.length_filter_le _ _
theorem withoutE_snoc (M : List EV) (p : ByteArray) (i : Nat) (hi : i < M.length) : withoutE p (M.take (i + 1)) = withoutE p (M.take i) ++ if M[i].p = p then [] else [M[i]] := by
  unfold withoutE
  rw [List.take_succ_eq_append_getElem hi, List.filter_append]
  congr 1
  by_cases h : M[i].p = p
  · rw [if_pos h]; simp [h]
  · rw [if_neg h]; simp [h]
/-- entries told: a row of the call's own -/
def EnOwn (w : World) (base : Nat) (e : Ending) (M : List EV) : Prop :=
  ∃ (A : Option Addr) (c : Nat) (l : List EV), e = .returned (.slice A l.length c) ∧ Hid (l = M) ∧ OwE w base A c l
theorem OwE.below {w w' : World} {base : Nat} {A : Option Addr} {c : Nat} {L : List EV} (h : OwE w base A c L) (k : Below w.heap.size w w') : OwE w' base A c L := own_below h k
theorem OwE.esr {w : World} {base : Nat} {A : Option Addr} {c : Nat} {L : List EV} (h : OwE w base A c L) (hok : ∀ x ∈ L, x.x.ok w (fun _ => True)) (hl : L.length ≤ 1000000) : EsR w A L := ⟨Rd.of_own h (fun _ _ _ => trivial), hok, hl⟩

set_option maxRecDepth 100000 in
set_option maxHeartbeats 1000000 in
theorem refWithout22_any (A : Option Addr) (c : Nat) (M : List EV) (p : ByteArray) (w : World) (h : EsR w A M) :
    Calls Try.prog 51 #[.slice A M.length c, .string p] w fun e w' => EnOwn w' w.heap.size e (withoutE p M) ∧ Below w.heap.size w w' := by
  have HT := Lib.hid h
  have hlen := h.len
  clear h
  go_enter Try.func51, Try.ntmps51
  go_wp2_with fail
  go_loopw [5, 6] (fun ov iv wr => ∃ (i : Nat) (A' : Option Addr) (c' : Nat) (l : List EV), i ≤ M.length ∧ iv = .int .i64 (i : Int) ∧ ov = .slice A' l.length c' ∧ Hid (l = withoutE p (M.take i)) ∧ l.length ≤ i ∧ OwE wr w.heap.size A' c' l ∧ Below w.heap.size w wr) (fun _ iv _ => M.length - (intOf iv).toNat)
  case atStart => exact ⟨0, none, 0, [], Nat.zero_le _, rfl, rfl, rfl, Nat.le_refl _, World.ownsRow_nil _ _ _ _, Below.refl _ _⟩
  case round =>
    obtain ⟨i, A', c', l, hi, rfl, rfl, hl, hli, ho, hb⟩ := hrel
    by_cases hlt : i < M.length
    · have hsn := withoutE_snoc M p i hlt
      obtain ⟨b, off, hA, hbb, c0, c1, c2, c3⟩ := (HT.out.below hb).at_ hlt
      subst hA
      obtain ⟨x, hx⟩ : ∃ x, x = M[i] := ⟨_, rfl⟩
      rw [← hx] at c0 c1 c2 c3 hsn
      by_cases he : x.p = p
      · have hne := neq_yes he
        rw [if_pos he, List.append_nil, ← hl.out] at hsn
        have HN := Lib.hid hsn.symm
        clear hsn hl hx he
        go_wp2_with fail
        go_roundw
        case rel => exact ⟨i + 1, A', c', l, hlt, by go_num, rfl, HN, by omega, ho, hb⟩
        case measure => simp [intOf]; omega
      · have hne := neq_no he
        rw [if_neg he, ← hl.out] at hsn
        have HN := Lib.hid hsn.symm
        have hsz := hb.size
        have hba : Below w.heap.size w (wr.alloc (.cells #[.string x.p, .int .u64 x.v, .int .i64 x.k, .slice x.x.A x.x.l.length x.x.c] 28)) := hb.alloc hsz _
        have ho1 := Lib.hid (ho.below ((Below.refl _ wr).alloc (Nat.le_refl _) (.cells #[.string x.p, .int .u64 x.v, .int .i64 x.k, .slice x.x.A x.x.l.length x.x.c] 28)))
        have hr1 : Hid (Rd (wr.alloc (.cells #[.string x.p, .int .u64 x.v, .int .i64 x.k, .slice x.x.A x.x.l.length x.x.c] 28)) (fun _ => True) 4 (some ⟨wr.heap.size, 0, none⟩) 1 (EV.cells x)) := (Rd.lit (w := wr) (t := 28) (size := 4) (n := 1) (xs := EV.cells x) rfl rfl rfl).mono (fun _ _ _ => trivial)
        clear hsn hl hx he ho
        go_wp2_with (at_builtin; refine wpList_append_entry rfl (.tmp 20) (.tmp 25) (t := 22) rfl rfl rfl ho1.out rfl hr1.out (by omega) (by simp; omega) ?_; intro A5 c5 w5 ho5 hb5 hk5)
        have hb6 := hba.trans hb5
        go_roundw
        case rel => exact ⟨i + 1, A5, c5, l ++ [x], hlt, by go_num, by simp, HN, by simp; omega, ho5, hb6⟩
        case measure => simp [intOf]; omega
    · have e : i = M.length := by omega
      subst e
      have HN : Hid (l = withoutE p M) := by
        show _ = _
        rw [hl.out, List.take_length]
      clear hl
      go_wp2_with fail
      go_ret
      exact ⟨⟨A', c', l, rfl, HN, ho⟩, hb⟩


set_option maxRecDepth 100000 in
set_option maxHeartbeats 2000000 in
theorem refWith22_any (A : Option Addr) (c : Nat) (M : List EV) (v : EV) (w : World) (h : EsR w A M) (hp : v.p.size ≤ 1048576) (hM : ∀ x ∈ M, x.p.size ≤ 1048576) :
    Calls Try.prog 52 #[.slice A M.length c, .agg #[.string v.p, .int .u64 v.v, .int .i64 v.k, .slice v.x.A v.x.l.length v.x.c]] w fun e w' => EnOwn w' w.heap.size e (insE v M) ∧ Below w.heap.size w w' := by
  have hw1 : Below w.heap.size w (w.alloc (.cells #[.string v.p, .int .u64 v.v, .int .i64 v.k, .slice v.x.A v.x.l.length v.x.c] 28)) := (by repeat (first | exact Below.refl _ _ | refine Below.alloc ?_ (by simp) _ | refine Below.setCell ?_ (by simp) _ | refine Below.drew ?_))
  have x1 := Blk.new w 28 #[.string v.p, .int .u64 v.v, .int .i64 v.k, .slice v.x.A v.x.l.length v.x.c]
  have HI := Lib.hid (h.below hw1)
  have HP := Lib.hid hM
  have hlen := h.len
  clear h hM
  go_enter Try.func52, Try.ntmps52
  go_wp2_with fail
  generalize w.alloc (.cells #[.string v.p, .int .u64 v.v, .int .i64 v.k, .slice v.x.A v.x.l.length v.x.c] 28) = w1 at *
  go_loopw [5, 6, 7] (fun ov dv iv wr => ∃ (i : Nat) (A' : Option Addr) (c' : Nat) (l : List EV) (d : Bool), i ≤ M.length ∧ iv = .int .i64 (i : Int) ∧ dv = .bool d ∧ ov = .slice A' l.length c' ∧ Hid (d = behR (tl v.p) (keyE (M.take i))) ∧ Hid (l = midE v (M.take i)) ∧ l.length ≤ i + 1 ∧ OwE wr w1.heap.size A' c' l ∧ Below w1.heap.size w1 wr) (fun _ _ iv _ => M.length - (intOf iv).toNat)
  case atStart => exact ⟨0, none, 0, [], false, Nat.zero_le _, rfl, rfl, rfl, rfl, rfl, by simp, World.ownsRow_nil _ _ _ _, Below.refl _ _⟩
  case round =>
    obtain ⟨i, A', c', l, d, hi, rfl, rfl, rfl, hd, hl, hli, hor, hwr⟩ := hrel
    have HB : Hid (∀ W, Below w1.heap.size w1 W → W.cell? ⟨w.heap.size, 0, none⟩ = some (.string v.p) ∧ W.cell? ⟨w.heap.size, 1, none⟩ = some (.int .u64 v.v) ∧ W.cell? ⟨w.heap.size, 2, none⟩ = some (.int .i64 v.k) ∧ W.cell? ⟨w.heap.size, 3, none⟩ = some (.slice v.x.A v.x.l.length v.x.c)) := fun W hW => ⟨(x1.below hW).cell 0, (x1.below hW).cell 1, (x1.below hW).cell 2, (x1.below hW).cell 3⟩
    by_cases hlt : i < M.length
    · obtain ⟨b, off, hA, hbb, c0, d1, d2, d3⟩ := HI.out.at_ hlt
      have hxl := HP.out _ (List.getElem_mem hlt)
      subst hA
      have ht := List.take_succ_eq_append_getElem hlt
      obtain ⟨x, hx⟩ : ∃ x, x = M[i] := ⟨_, rfl⟩
      rw [← hx] at c0 d1 d2 d3 hxl ht
      have HX : Hid (∀ W, Below w1.heap.size w1 W → W.cell? ⟨b, off + i * 4, none⟩ = some (.string x.p) ∧ W.cell? ⟨b, off + i * 4 + 1, none⟩ = some (.int .u64 x.v) ∧ W.cell? ⟨b, off + i * 4 + 2, none⟩ = some (.int .i64 x.k) ∧ W.cell? ⟨b, off + i * 4 + 3, none⟩ = some (.slice x.x.A x.x.l.length x.x.c)) := by
        intro W hW
        rw [hW.cell hbb, hW.cell hbb, hW.cell hbb, hW.cell hbb]
        exact ⟨c0, d1, d2, d3⟩
      have ht2 : behR (tl v.p) (keyE (M.take (i + 1))) = (d || decide (0 < cmpT (tl x.p) (tl v.p))) := by
        rw [ht, keyE_app, beh_snoc, ← hd.out]
      clear c0 d1 d2 d3 hx
      cases d
      · have hb1 := hwr.size
        have HBH := Lib.hid hd.out
        have HL2 := Lib.hid hl.out
        obtain ⟨cm, hcm⟩ : ∃ cm, cm = cmpT (tl x.p) (tl v.p) := ⟨_, rfl⟩
        have HCM := Lib.hid (fun W => refCompare_any x.p v.p (by omega) (by omega) W)
        rw [← hcm] at HCM ht2
        clear hl hd
        go_upto_region 6 with (fail)
        have lm : l = M.take i := by
          rw [HL2.out]; unfold midE; rw [if_neg (by rw [← HBH.out]; simp)]
        have hli2 : l.length ≤ i := by rw [lm]; exact List.length_take_le _ _
        by_cases hc : 0 < cm
        · have hN : l ++ [v] ++ [x] = midE v (M.take (i + 1)) := by
            unfold midE
            rw [if_pos (by rw [ht2]; simp [hc]), ht, insE_here (by rw [← hcm]; exact hc) HBH.out.symm, lm]
          have HN := Lib.hid hN
          have HD : Hid (true = behR (tl v.p) (keyE (M.take (i + 1)))) := by
            show _ = _
            rw [ht2]; simp [hc]
          have hcd : decide (0 < cm) = true := decide_eq_true hc
          clear hcm
          refine wp_region_b 13 (by kernel_rfl) (by kernel_rfl) ?_
          simp only [List.take_succ_cons, List.take_zero, List.drop_succ_cons, List.drop_zero]
          refine lb_move _ (by kernel_rfl) rfl ⟨_, (by ((try simp [go_sem]); (try rfl); done)), _, (by (simp only [Act.put, List.setIfInBounds_toArray, List.set_cons_zero, List.set_cons_succ]; rfl)), ?_⟩
          refine lb_val (by kernel_rfl) ⟨_, (by (intro w' hC; clear hC; (try go_simp); (try with_reducible rfl); done)), _, (by (simp only [Act.put, List.setIfInBounds_toArray, List.set_cons_zero, List.set_cons_succ]; rfl)), ?_⟩
          refine lb_move _ (by kernel_rfl) rfl ⟨_, (by ((try simp [go_sem]); (try rfl); done)), _, (by (simp only [Act.put, List.setIfInBounds_toArray, List.set_cons_zero, List.set_cons_succ]; rfl)), ?_⟩
          first | (refine lb_skip (by rfl) ⟨_, (by (simp only [Act.put, List.setIfInBounds_toArray, List.set_cons_zero, List.set_cons_succ]; rfl)), ?_⟩) | (refine lb_move _ (by kernel_rfl) rfl ⟨_, (by ((try simp [go_sem]); (try rfl); done)), _, (by (simp only [Act.put, List.setIfInBounds_toArray, List.set_cons_zero, List.set_cons_succ]; rfl)), ?_⟩)
          first | (refine lb_skip (by rfl) ⟨_, (by (simp only [Act.put, List.setIfInBounds_toArray, List.set_cons_zero, List.set_cons_succ]; rfl)), ?_⟩) | (refine lb_move _ (by kernel_rfl) rfl ⟨_, (by ((try simp [go_sem]); (try rfl); done)), _, (by (simp only [Act.put, List.setIfInBounds_toArray, List.set_cons_zero, List.set_cons_succ]; rfl)), ?_⟩)
          first | (refine lb_skip (by rfl) ⟨_, (by (simp only [Act.put, List.setIfInBounds_toArray, List.set_cons_zero, List.set_cons_succ]; rfl)), ?_⟩) | (refine lb_val (by kernel_rfl) ⟨_, (by (intro w' hC; clear hC; (try go_simp); (try with_reducible rfl); done)), _, (by (simp only [Act.put, List.setIfInBounds_toArray, List.set_cons_zero, List.set_cons_succ]; rfl)), ?_⟩)
          first | (refine lb_skip (by rfl) ⟨_, (by (simp only [Act.put, List.setIfInBounds_toArray, List.set_cons_zero, List.set_cons_succ]; rfl)), ?_⟩) | (refine lb_val (by kernel_rfl) ⟨_, (by (intro w' hC; clear hC; (try go_simp); (try with_reducible rfl); done)), _, (by (simp only [Act.put, List.setIfInBounds_toArray, List.set_cons_zero, List.set_cons_succ]; rfl)), ?_⟩)
          first | (refine lb_skip (by rfl) ⟨_, (by (simp only [Act.put, List.setIfInBounds_toArray, List.set_cons_zero, List.set_cons_succ]; rfl)), ?_⟩) | (refine lb_val (by kernel_rfl) ⟨_, (by (intro w' hC; (have ⟨c0, _, _, _⟩ := HX.out w' (hwr.trans (hC.mono hwr.size))); clear hC; (try go_simp); (try with_reducible rfl); done)), _, (by (simp only [Act.put, List.setIfInBounds_toArray, List.set_cons_zero, List.set_cons_succ]; rfl)), ?_⟩)
          first | (refine lb_skip (by rfl) ⟨_, (by (simp only [Act.put, List.setIfInBounds_toArray, List.set_cons_zero, List.set_cons_succ]; rfl)), ?_⟩) | (refine lb_val (by kernel_rfl) ⟨_, (by (intro w' hC; clear hC; (try go_simp); (try with_reducible rfl); done)), _, (by (simp only [Act.put, List.setIfInBounds_toArray, List.set_cons_zero, List.set_cons_succ]; rfl)), ?_⟩)
          first | (refine lb_skip (by rfl) ⟨_, (by (simp only [Act.put, List.setIfInBounds_toArray, List.set_cons_zero, List.set_cons_succ]; rfl)), ?_⟩) | (refine lb_val (by kernel_rfl) ⟨_, (by (intro w' hC; (have ⟨q0, _, _, _⟩ := HB.out w' (hwr.trans (hC.mono hwr.size))); clear hC; (try go_simp); (try with_reducible rfl); done)), _, (by (simp only [Act.put, List.setIfInBounds_toArray, List.set_cons_zero, List.set_cons_succ]; rfl)), ?_⟩)
          first | (refine lb_skip (by rfl) ⟨_, (by (simp only [Act.put, List.setIfInBounds_toArray, List.set_cons_zero, List.set_cons_succ]; rfl)), ?_⟩) | (refine lb_call (by kernel_rfl) (fun w' hC => HCM.out _) (by (intro w'; go_simp; done)) ⟨_, (by (simp only [Act.put, List.setIfInBounds_toArray, List.set_cons_zero, List.set_cons_succ]; rfl)), ?_⟩)
          first | (refine lb_skip (by rfl) ⟨_, (by (simp only [Act.put, List.setIfInBounds_toArray, List.set_cons_zero, List.set_cons_succ]; rfl)), ?_⟩) | (refine lb_val (by kernel_rfl) ⟨_, (by (intro w' hC; clear hC; (try go_simp); (try with_reducible rfl); done)), _, (by (simp only [Act.put, List.setIfInBounds_toArray, List.set_cons_zero, List.set_cons_succ]; rfl)), ?_⟩)
          refine lb_val (by kernel_rfl) ⟨_, (by (intro w' hC; clear hC; (try go_simp); (try with_reducible rfl); done)), _, (by (simp only [Act.put, List.setIfInBounds_toArray, List.set_cons_zero, List.set_cons_succ]; rfl)), ?_⟩
          refine .nil ?_
          intro w2 hb2
          have hw2 := hwr.trans (hb2.mono hb1)
          have ho2 := hor.below hb2
          have hs2 := hw2.size
          clear hor hb2 HCM
          obtain ⟨q0, q1, q2, q3⟩ := HB.out w2 hw2
          have ba1 : Below w1.heap.size w1 (w2.alloc (.cells #[.string v.p, .int .u64 v.v, .int .i64 v.k, .slice v.x.A v.x.l.length v.x.c] 28)) := hw2.alloc hw2.size _; have oa1 := Lib.hid (ho2.below ((Below.refl _ w2).alloc (Nat.le_refl _) (.cells #[.string v.p, .int .u64 v.v, .int .i64 v.k, .slice v.x.A v.x.l.length v.x.c] 28))); have ra1 : Hid (Rd (w2.alloc (.cells #[.string v.p, .int .u64 v.v, .int .i64 v.k, .slice v.x.A v.x.l.length v.x.c] 28)) (fun _ => True) 4 (some ⟨w2.heap.size, 0, none⟩) 1 (EV.cells v)) := (Rd.lit (w := w2) (t := 28) (size := 4) (n := 1) (xs := EV.cells v) rfl rfl rfl).mono (fun _ _ _ => trivial)
          clear hN lm HL2 HBH ht2 ht ho2 HI x1
          go_wp2_with (first | (at_builtin; refine wpList_append_entry rfl (.tmp 27) (.tmp 29) (t := 22) rfl rfl rfl oa1.out rfl ra1.out (by simp; omega) ba1.size ?_; intro A5 c5 w5 ho5 hb5 _; have hw5 := ba1.trans hb5; obtain ⟨c0, c1', c2, c3⟩ := HX.out w5 hw5; clear oa1 ra1; have ba2 : Below w1.heap.size w1 (w5.alloc (.cells #[.string x.p, .int .u64 x.v, .int .i64 x.k, .slice x.x.A x.x.l.length x.x.c] 28)) := hw5.alloc hw5.size _; have oa2 := Lib.hid (ho5.below ((Below.refl _ w5).alloc (Nat.le_refl _) (.cells #[.string x.p, .int .u64 x.v, .int .i64 x.k, .slice x.x.A x.x.l.length x.x.c] 28))); have ra2 : Hid (Rd (w5.alloc (.cells #[.string x.p, .int .u64 x.v, .int .i64 x.k, .slice x.x.A x.x.l.length x.x.c] 28)) (fun _ => True) 4 (some ⟨w5.heap.size, 0, none⟩) 1 (EV.cells x)) := (Rd.lit (w := w5) (t := 28) (size := 4) (n := 1) (xs := EV.cells x) rfl rfl rfl).mono (fun _ _ _ => trivial)) | (at_builtin; refine wpList_append_entry rfl (.tmp 31) (.tmp 36) (t := 22) rfl rfl (by rw [List.length_append]; rfl) oa2.out rfl ra2.out (by simp; omega) ba2.size ?_; intro A7 c7 w7 ho7 hb7 _; have hw7 := ba2.trans hb7))
          go_roundw
          case rel => exact ⟨i + 1, A7, c7, l ++ [v] ++ [x], true, hlt, by go_num, rfl, by simp, HD, HN, by simp; omega, ho7, hw7⟩
          case measure => simp [intOf]; omega
        · have hN : l ++ [x] = midE v (M.take (i + 1)) := by
            unfold midE
            rw [if_neg (by rw [ht2]; simp [hc]), ht, lm]
          have HN := Lib.hid hN
          have HD : Hid (false = behR (tl v.p) (keyE (M.take (i + 1)))) := by
            show _ = _
            rw [ht2]; simp [hc]
          have hcd : decide (0 < cm) = false := decide_eq_false hc
          clear hcm
          refine wp_region_b 13 (by kernel_rfl) (by kernel_rfl) ?_
          simp only [List.take_succ_cons, List.take_zero, List.drop_succ_cons, List.drop_zero]
          refine lb_move _ (by kernel_rfl) rfl ⟨_, (by ((try simp [go_sem]); (try rfl); done)), _, (by (simp only [Act.put, List.setIfInBounds_toArray, List.set_cons_zero, List.set_cons_succ]; rfl)), ?_⟩
          refine lb_val (by kernel_rfl) ⟨_, (by (intro w' hC; clear hC; (try go_simp); (try with_reducible rfl); done)), _, (by (simp only [Act.put, List.setIfInBounds_toArray, List.set_cons_zero, List.set_cons_succ]; rfl)), ?_⟩
          refine lb_move _ (by kernel_rfl) rfl ⟨_, (by ((try simp [go_sem]); (try rfl); done)), _, (by (simp only [Act.put, List.setIfInBounds_toArray, List.set_cons_zero, List.set_cons_succ]; rfl)), ?_⟩
          first | (refine lb_skip (by rfl) ⟨_, (by (simp only [Act.put, List.setIfInBounds_toArray, List.set_cons_zero, List.set_cons_succ]; rfl)), ?_⟩) | (refine lb_move _ (by kernel_rfl) rfl ⟨_, (by ((try simp [go_sem]); (try rfl); done)), _, (by (simp only [Act.put, List.setIfInBounds_toArray, List.set_cons_zero, List.set_cons_succ]; rfl)), ?_⟩)
          first | (refine lb_skip (by rfl) ⟨_, (by (simp only [Act.put, List.setIfInBounds_toArray, List.set_cons_zero, List.set_cons_succ]; rfl)), ?_⟩) | (refine lb_move _ (by kernel_rfl) rfl ⟨_, (by ((try simp [go_sem]); (try rfl); done)), _, (by (simp only [Act.put, List.setIfInBounds_toArray, List.set_cons_zero, List.set_cons_succ]; rfl)), ?_⟩)
          first | (refine lb_skip (by rfl) ⟨_, (by (simp only [Act.put, List.setIfInBounds_toArray, List.set_cons_zero, List.set_cons_succ]; rfl)), ?_⟩) | (refine lb_val (by kernel_rfl) ⟨_, (by (intro w' hC; clear hC; (try go_simp); (try with_reducible rfl); done)), _, (by (simp only [Act.put, List.setIfInBounds_toArray, List.set_cons_zero, List.set_cons_succ]; rfl)), ?_⟩)
          first | (refine lb_skip (by rfl) ⟨_, (by (simp only [Act.put, List.setIfInBounds_toArray, List.set_cons_zero, List.set_cons_succ]; rfl)), ?_⟩) | (refine lb_val (by kernel_rfl) ⟨_, (by (intro w' hC; clear hC; (try go_simp); (try with_reducible rfl); done)), _, (by (simp only [Act.put, List.setIfInBounds_toArray, List.set_cons_zero, List.set_cons_succ]; rfl)), ?_⟩)
          first | (refine lb_skip (by rfl) ⟨_, (by (simp only [Act.put, List.setIfInBounds_toArray, List.set_cons_zero, List.set_cons_succ]; rfl)), ?_⟩) | (refine lb_val (by kernel_rfl) ⟨_, (by (intro w' hC; (have ⟨c0, _, _, _⟩ := HX.out w' (hwr.trans (hC.mono hwr.size))); clear hC; (try go_simp); (try with_reducible rfl); done)), _, (by (simp only [Act.put, List.setIfInBounds_toArray, List.set_cons_zero, List.set_cons_succ]; rfl)), ?_⟩)
          first | (refine lb_skip (by rfl) ⟨_, (by (simp only [Act.put, List.setIfInBounds_toArray, List.set_cons_zero, List.set_cons_succ]; rfl)), ?_⟩) | (refine lb_val (by kernel_rfl) ⟨_, (by (intro w' hC; clear hC; (try go_simp); (try with_reducible rfl); done)), _, (by (simp only [Act.put, List.setIfInBounds_toArray, List.set_cons_zero, List.set_cons_succ]; rfl)), ?_⟩)
          first | (refine lb_skip (by rfl) ⟨_, (by (simp only [Act.put, List.setIfInBounds_toArray, List.set_cons_zero, List.set_cons_succ]; rfl)), ?_⟩) | (refine lb_val (by kernel_rfl) ⟨_, (by (intro w' hC; (have ⟨q0, _, _, _⟩ := HB.out w' (hwr.trans (hC.mono hwr.size))); clear hC; (try go_simp); (try with_reducible rfl); done)), _, (by (simp only [Act.put, List.setIfInBounds_toArray, List.set_cons_zero, List.set_cons_succ]; rfl)), ?_⟩)
          first | (refine lb_skip (by rfl) ⟨_, (by (simp only [Act.put, List.setIfInBounds_toArray, List.set_cons_zero, List.set_cons_succ]; rfl)), ?_⟩) | (refine lb_call (by kernel_rfl) (fun w' hC => HCM.out _) (by (intro w'; go_simp; done)) ⟨_, (by (simp only [Act.put, List.setIfInBounds_toArray, List.set_cons_zero, List.set_cons_succ]; rfl)), ?_⟩)
          first | (refine lb_skip (by rfl) ⟨_, (by (simp only [Act.put, List.setIfInBounds_toArray, List.set_cons_zero, List.set_cons_succ]; rfl)), ?_⟩) | (refine lb_val (by kernel_rfl) ⟨_, (by (intro w' hC; clear hC; (try go_simp); (try with_reducible rfl); done)), _, (by (simp only [Act.put, List.setIfInBounds_toArray, List.set_cons_zero, List.set_cons_succ]; rfl)), ?_⟩)
          refine lb_val (by kernel_rfl) ⟨_, (by (intro w' hC; clear hC; (try go_simp); (try with_reducible rfl); done)), _, (by (simp only [Act.put, List.setIfInBounds_toArray, List.set_cons_zero, List.set_cons_succ]; rfl)), ?_⟩
          refine .nil ?_
          intro w2 hb2
          have hw2 := hwr.trans (hb2.mono hb1)
          have ho2 := hor.below hb2
          have hs2 := hw2.size
          clear hor hb2 HCM
          obtain ⟨c0, c1', c2, c3⟩ := HX.out w2 hw2
          have ba1 : Below w1.heap.size w1 (w2.alloc (.cells #[.string x.p, .int .u64 x.v, .int .i64 x.k, .slice x.x.A x.x.l.length x.x.c] 28)) := hw2.alloc hw2.size _; have oa1 := Lib.hid (ho2.below ((Below.refl _ w2).alloc (Nat.le_refl _) (.cells #[.string x.p, .int .u64 x.v, .int .i64 x.k, .slice x.x.A x.x.l.length x.x.c] 28))); have ra1 : Hid (Rd (w2.alloc (.cells #[.string x.p, .int .u64 x.v, .int .i64 x.k, .slice x.x.A x.x.l.length x.x.c] 28)) (fun _ => True) 4 (some ⟨w2.heap.size, 0, none⟩) 1 (EV.cells x)) := (Rd.lit (w := w2) (t := 28) (size := 4) (n := 1) (xs := EV.cells x) rfl rfl rfl).mono (fun _ _ _ => trivial)
          clear hN lm HL2 HBH ht2 ht ho2 HI x1
          go_wp2_with (at_builtin; refine wpList_append_entry rfl (.tmp 31) (.tmp 36) (t := 22) rfl rfl rfl oa1.out rfl ra1.out (by simp; omega) ba1.size ?_; intro A5 c5 w5 ho5 hb5 _; have hw5 := ba1.trans hb5)
          go_roundw
          case rel => exact ⟨i + 1, A5, c5, l ++ [x], false, hlt, by go_num, rfl, by simp, HD, HN, by simp; omega, ho5, hw5⟩
          case measure => simp [intOf]; omega
      · have hb1 := hwr.size
        have hN : l ++ [x] = midE v (M.take (i + 1)) := by
          unfold midE
          rw [if_pos (by rw [ht2]; simp), ht, insE_done hd.out.symm, hl.out]
          unfold midE
          rw [if_pos hd.out.symm]
        have HN := Lib.hid hN
        have HD : Hid (true = behR (tl v.p) (keyE (M.take (i + 1)))) := by
          show _ = _
          rw [ht2]; simp
        have HCM : Hid True := trivial
        clear ht2 ht hl hd hN
        go_upto_region 6 with (fail)
        refine wp_region_b 13 (by kernel_rfl) (by kernel_rfl) ?_
        simp only [List.take_succ_cons, List.take_zero, List.drop_succ_cons, List.drop_zero]
        refine lb_move _ (by kernel_rfl) rfl ⟨_, (by ((try simp [go_sem]); (try rfl); done)), _, (by (simp only [Act.put, List.setIfInBounds_toArray, List.set_cons_zero, List.set_cons_succ]; rfl)), ?_⟩
        refine lb_val (by kernel_rfl) ⟨_, (by (intro w' hC; clear hC; (try go_simp); (try with_reducible rfl); done)), _, (by (simp only [Act.put, List.setIfInBounds_toArray, List.set_cons_zero, List.set_cons_succ]; rfl)), ?_⟩
        refine lb_move _ (by kernel_rfl) rfl ⟨_, (by ((try simp [go_sem]); (try rfl); done)), _, (by (simp only [Act.put, List.setIfInBounds_toArray, List.set_cons_zero, List.set_cons_succ]; rfl)), ?_⟩
        first | (refine lb_skip (by rfl) ⟨_, (by (simp only [Act.put, List.setIfInBounds_toArray, List.set_cons_zero, List.set_cons_succ]; rfl)), ?_⟩) | (refine lb_move _ (by kernel_rfl) rfl ⟨_, (by ((try simp [go_sem]); (try rfl); done)), _, (by (simp only [Act.put, List.setIfInBounds_toArray, List.set_cons_zero, List.set_cons_succ]; rfl)), ?_⟩)
        first | (refine lb_skip (by rfl) ⟨_, (by (simp only [Act.put, List.setIfInBounds_toArray, List.set_cons_zero, List.set_cons_succ]; rfl)), ?_⟩) | (refine lb_move _ (by kernel_rfl) rfl ⟨_, (by ((try simp [go_sem]); (try rfl); done)), _, (by (simp only [Act.put, List.setIfInBounds_toArray, List.set_cons_zero, List.set_cons_succ]; rfl)), ?_⟩)
        first | (refine lb_skip (by rfl) ⟨_, (by (simp only [Act.put, List.setIfInBounds_toArray, List.set_cons_zero, List.set_cons_succ]; rfl)), ?_⟩) | (refine lb_val (by kernel_rfl) ⟨_, (by (intro w' hC; clear hC; (try go_simp); (try with_reducible rfl); done)), _, (by (simp only [Act.put, List.setIfInBounds_toArray, List.set_cons_zero, List.set_cons_succ]; rfl)), ?_⟩)
        first | (refine lb_skip (by rfl) ⟨_, (by (simp only [Act.put, List.setIfInBounds_toArray, List.set_cons_zero, List.set_cons_succ]; rfl)), ?_⟩) | (refine lb_val (by kernel_rfl) ⟨_, (by (intro w' hC; clear hC; (try go_simp); (try with_reducible rfl); done)), _, (by (simp only [Act.put, List.setIfInBounds_toArray, List.set_cons_zero, List.set_cons_succ]; rfl)), ?_⟩)
        first | (refine lb_skip (by rfl) ⟨_, (by (simp only [Act.put, List.setIfInBounds_toArray, List.set_cons_zero, List.set_cons_succ]; rfl)), ?_⟩) | (refine lb_val (by kernel_rfl) ⟨_, (by (intro w' hC; (have ⟨c0, _, _, _⟩ := HX.out w' (hwr.trans (hC.mono hwr.size))); clear hC; (try go_simp); (try with_reducible rfl); done)), _, (by (simp only [Act.put, List.setIfInBounds_toArray, List.set_cons_zero, List.set_cons_succ]; rfl)), ?_⟩)
        first | (refine lb_skip (by rfl) ⟨_, (by (simp only [Act.put, List.setIfInBounds_toArray, List.set_cons_zero, List.set_cons_succ]; rfl)), ?_⟩) | (refine lb_val (by kernel_rfl) ⟨_, (by (intro w' hC; clear hC; (try go_simp); (try with_reducible rfl); done)), _, (by (simp only [Act.put, List.setIfInBounds_toArray, List.set_cons_zero, List.set_cons_succ]; rfl)), ?_⟩)
        first | (refine lb_skip (by rfl) ⟨_, (by (simp only [Act.put, List.setIfInBounds_toArray, List.set_cons_zero, List.set_cons_succ]; rfl)), ?_⟩) | (refine lb_val (by kernel_rfl) ⟨_, (by (intro w' hC; (have ⟨q0, _, _, _⟩ := HB.out w' (hwr.trans (hC.mono hwr.size))); clear hC; (try go_simp); (try with_reducible rfl); done)), _, (by (simp only [Act.put, List.setIfInBounds_toArray, List.set_cons_zero, List.set_cons_succ]; rfl)), ?_⟩)
        first | (refine lb_skip (by rfl) ⟨_, (by (simp only [Act.put, List.setIfInBounds_toArray, List.set_cons_zero, List.set_cons_succ]; rfl)), ?_⟩) | (refine lb_call (by kernel_rfl) (fun w' hC => HCM.out _) (by (intro w'; go_simp; done)) ⟨_, (by (simp only [Act.put, List.setIfInBounds_toArray, List.set_cons_zero, List.set_cons_succ]; rfl)), ?_⟩)
        first | (refine lb_skip (by rfl) ⟨_, (by (simp only [Act.put, List.setIfInBounds_toArray, List.set_cons_zero, List.set_cons_succ]; rfl)), ?_⟩) | (refine lb_val (by kernel_rfl) ⟨_, (by (intro w' hC; clear hC; (try go_simp); (try with_reducible rfl); done)), _, (by (simp only [Act.put, List.setIfInBounds_toArray, List.set_cons_zero, List.set_cons_succ]; rfl)), ?_⟩)
        refine lb_val (by kernel_rfl) ⟨_, (by (intro w' hC; clear hC; (try go_simp); (try with_reducible rfl); done)), _, (by (simp only [Act.put, List.setIfInBounds_toArray, List.set_cons_zero, List.set_cons_succ]; rfl)), ?_⟩
        refine .nil ?_
        intro w2 hb2
        have hw2 := hwr.trans (hb2.mono hb1)
        have ho2 := hor.below hb2
        clear hor hb2
        obtain ⟨c0, c1', c2, c3⟩ := HX.out w2 hw2
        have ba1 : Below w1.heap.size w1 (w2.alloc (.cells #[.string x.p, .int .u64 x.v, .int .i64 x.k, .slice x.x.A x.x.l.length x.x.c] 28)) := hw2.alloc hw2.size _; have oa1 := Lib.hid (ho2.below ((Below.refl _ w2).alloc (Nat.le_refl _) (.cells #[.string x.p, .int .u64 x.v, .int .i64 x.k, .slice x.x.A x.x.l.length x.x.c] 28))); have ra1 : Hid (Rd (w2.alloc (.cells #[.string x.p, .int .u64 x.v, .int .i64 x.k, .slice x.x.A x.x.l.length x.x.c] 28)) (fun _ => True) 4 (some ⟨w2.heap.size, 0, none⟩) 1 (EV.cells x)) := (Rd.lit (w := w2) (t := 28) (size := 4) (n := 1) (xs := EV.cells x) rfl rfl rfl).mono (fun _ _ _ => trivial)
        clear ho2 HI x1
        go_wp2_with (at_builtin; refine wpList_append_entry rfl (.tmp 31) (.tmp 36) (t := 22) rfl rfl rfl oa1.out rfl ra1.out (by simp; omega) ba1.size ?_; intro A5 c5 w5 ho5 hb5 _; have hw5 := ba1.trans hb5)
        go_roundw
        case rel => exact ⟨i + 1, A5, c5, l ++ [x], true, hlt, by go_num, rfl, by simp, HD, HN, by simp; omega, ho5, hw5⟩
        case measure => simp [intOf]; omega
    · have e : i = M.length := by omega
      subst e
      rw [List.take_length] at hd hl
      have hs1 := hw1.size
      cases d
      · have HN : Hid (l ++ [v] = insE v M) := by
          show _ = _
          rw [insE_none hd.out.symm, hl.out]
          unfold midE
          rw [if_neg (by rw [← hd.out]; simp)]
        obtain ⟨q0, q1, q2, q3⟩ := HB.out wr hwr
        have ba1 : Below w1.heap.size w1 (wr.alloc (.cells #[.string v.p, .int .u64 v.v, .int .i64 v.k, .slice v.x.A v.x.l.length v.x.c] 28)) := hwr.alloc hwr.size _; have oa1 := Lib.hid (hor.below ((Below.refl _ wr).alloc (Nat.le_refl _) (.cells #[.string v.p, .int .u64 v.v, .int .i64 v.k, .slice v.x.A v.x.l.length v.x.c] 28))); have ra1 : Hid (Rd (wr.alloc (.cells #[.string v.p, .int .u64 v.v, .int .i64 v.k, .slice v.x.A v.x.l.length v.x.c] 28)) (fun _ => True) 4 (some ⟨wr.heap.size, 0, none⟩) 1 (EV.cells v)) := (Rd.lit (w := wr) (t := 28) (size := 4) (n := 1) (xs := EV.cells v) rfl rfl rfl).mono (fun _ _ _ => trivial)
        clear hl hd hor HI x1
        go_wp2_with (at_builtin; refine wpList_append_entry rfl (.tmp 40) (.tmp 42) (t := 22) rfl rfl rfl oa1.out rfl ra1.out (by simp; omega) ba1.size ?_; intro A5 c5 w5 ho5 hb5 _; have hw5 := ba1.trans hb5)
        go_ret
        exact ⟨⟨A5, c5, l ++ [v], by simp, HN, own_base ho5 (fun g hg => Nat.le_trans hs1 (ho5.lt _ hg).1)⟩, hw1.trans (hw5.mono hs1)⟩
      · have HN : Hid (l = insE v M) := by
          show _ = _
          rw [hl.out]
          unfold midE
          rw [if_pos hd.out.symm]
        clear hl hd HI x1
        go_wp2_with fail
        go_ret
        exact ⟨⟨A', c', l, rfl, HN, own_base hor (fun g hg => Nat.le_trans hs1 (hor.lt _ hg).1)⟩, hw1.trans (hwr.mono hs1)⟩

end Go.Proofs.Ytdnljmncdbcgeaa
