/- Drawn regions in an order of ours: as Mix, but the operations are told in any order that the region may have. No program. -/
import Derived.Test.YtjcfphdjgagimaaGreatDoorA05
import Derived.Lib.SlicesCompact
import Derived.Shelf.Small.Bits
import Derived.Sort.OwnSorted
import Derived.Lib.BitFns
import Derived.Deep.RegionLaw
import Derived.Outline
import Derived.IntWalk

namespace Go.Proofs.YtjcfphdjgagimaaGreatDoor
open Go.RowKit

section
variable {P : Program} {ops : Array Oper} {md : Region.Mode} {C : World → Prop}
def mixP (md : Region.Mode) (ops : Array Oper) (g m : Nat) : List (Nat × Bool) → Array Bool → Bool
  | [], listed => Region.seqB md ops g m listed
  | (k, true) :: ks, listed => decide (k < m) && (Region.ready md ops listed).contains k && Region.free md ops listed k && mixP md ops g m ks (listed.setIfInBounds k true)
  | (k, false) :: ks, listed => decide (k < m) && decide (Region.ready md ops listed = [k]) && mixP md ops g m ks (listed.setIfInBounds k true)
theorem mix_perm {m g : Nat} {Lq : Act → World → Prop} (hsel : ∀ (j : Nat) (o : Oper) cs b, ops[j]? = some o → o.op ≠ .select cs b) (hT : TailWaitsB md ops m) :
    ∀ (ks : List (Nat × Bool)) (l : List Oper) (listed : Array Bool) (a : Act) (w : World), l.map some = ks.map (fun x => ops[x.1]?) → HeadInv md ops m listed →
    mixP md ops g m ks listed = true → wpMix P ops C Lq (ks.map (·.2)) l a w →
    wpAnyT P md ops C m (fun listed' a' w' => Region.seqB md ops g m listed' = true ∧ Lq a' w') l.length listed a w
  | [], [], listed, a, w, _, _, hB, h => ⟨h.1, seqB_ready hB, hB, h.2⟩
  | (k, true) :: ks, o :: l, listed, a, w, hl, inv, hB, h => by
    simp only [List.map_cons, List.cons.injEq] at hl
    have h0 : ops[k]? = some o := hl.1.symm
    simp only [mixP, Bool.and_eq_true, decide_eq_true_eq] at hB
    obtain ⟨⟨⟨hkm, hr⟩, hf⟩, hB'⟩ := hB
    have hr' : k ∈ Region.ready md ops listed := by simpa using hr
    obtain ⟨v, hy, h'⟩ := h
    exact wpAnyT_first h0 hkm hsel hT _ listed a w inv (Region.free_spec h0 hf) hr' hy (mix_perm hsel hT ks l _ _ w hl.2 (inv.set hr' hkm) hB' h')
  | (k, false) :: ks, o :: l, listed, a, w, hl, inv, hB, h => by
    simp only [List.map_cons, List.cons.injEq] at hl
    have h0 : ops[k]? = some o := hl.1.symm
    simp only [mixP, Bool.and_eq_true, decide_eq_true_eq] at hB
    obtain ⟨⟨hkm, hr⟩, hB'⟩ := hB
    obtain ⟨hc, h'⟩ := h
    refine ⟨hc, fun h1 => (by rw [hr] at h1; cases h1), fun i hi => ?_⟩
    have hi' := hi
    rw [hr] at hi
    have hik : i = k := by simpa using hi
    subst hik
    refine ⟨hkm, ?_⟩
    have rec_ : ∀ a' w', wpMix P ops C Lq (ks.map (·.2)) l a' w' → wpAnyT P md ops C m (fun listed' a' w' => Region.seqB md ops g m listed' = true ∧ Lq a' w') l.length (listed.setIfInBounds i true) a' w' := fun a' w' h2 =>
      mix_perm hsel hT ks l _ a' w' hl.2 (inv.set hi' hkm) hB' h2
    unfold wpOp
    simp only [h0]
    rcases h' with ⟨hw, h'⟩ | ⟨hw, h'⟩
    · simp only [hw, if_true]
      exact .inl (Oper.wp_mono rec_ h')
    · simp only [hw, Bool.false_eq_true, if_false]
      exact rec_ _ _ h'
  | [], _ :: _, _, _, _, hl, _, _, _ => by simp at hl
  | (_, true) :: _, [], _, _, _, hl, _, _, _ => by simp at hl
  | (_, false) :: _, [], _, _, _, hl, _, _, _ => by simp at hl
theorem filterMap_some (l : List Oper) : ∀ (ks : List (Nat × Bool)), ks.all (fun x => decide (x.1 < l.length)) = true → (ks.filterMap fun x => l[x.1]?).map some = ks.map (fun x => l.toArray[x.1]?)
  | [], _ => rfl
  | x :: ks, h => by
    simp only [List.all_cons, Bool.and_eq_true, decide_eq_true_eq] at h
    have ih := filterMap_some l ks h.2
    rw [List.filterMap_cons, List.getElem?_eq_getElem h.1]
    simp only [List.map_cons]
    rw [ih, show l.toArray[x.1]? = some l[x.1] by simp [h.1]]
/-- the first operations in an order of ours, by kinds; the rest one behind the other -/
theorem wp_region_p {id : Nat} {Q : Exit → Act → World → Prop} {a : Act} {w : World} {l : List Oper} (ks : List (Nat × Bool)) (C : World → Prop) (hm : P.follows .mixedOrders = true)
    (hB : (ks.all (fun x => decide (x.1 < l.length)) && tailOkB l.toArray ks.length && mixP .any l.toArray (l.toArray.size - ks.length) ks.length ks (Array.replicate l.toArray.size false)) = true)
    (h : MixW P l.toArray C (fun a' w' => wpList P l.toArray Q (l.drop ks.length) a' w') (ks.map (·.2)) (ks.filterMap fun x => l[x.1]?) a w.drew) : (Code.region id l.toArray true).wp P Q a w := by
  rw [Bool.and_eq_true, Bool.and_eq_true] at hB
  obtain ⟨⟨hall, hok⟩, hlex⟩ := hB
  obtain ⟨hsel, hnl, hT⟩ := tailOkB_spec hok
  have hfm := filterMap_some l ks hall
  have hfl : (ks.filterMap fun x => l[x.1]?).length = ks.length := by simpa using congrArg List.length hfm
  have hdl : (l.drop ks.length).length = l.toArray.size - ks.length := by simp
  have H := mix_perm (P := P) (md := .any) (m := ks.length) (g := l.toArray.size - ks.length) (Region.noSelect_spec hsel) hT ks _ _ a w.drew hfm (inv_new ks.length) hlex h.go
  refine wp_region_any hm ?_
  have := wpAny_of_T (Q := Q) (g := l.toArray.size - ks.length) (fun listed a' w' hL => by
    have := wpAny_of_seq (md := .any) (Q' := Q) (l.drop ks.length) ks.length listed a' w' (fun j => by simp [List.getElem?_drop]) (by rw [hdl]; exact hL.1) hL.2
    rwa [hdl] at this) _ _ _ _ H
  rw [hfl, show ks.length + (l.toArray.size - ks.length) = l.toArray.size by simp at hnl ⊢; omega] at this
  exact this
end
end Go.Proofs.YtjcfphdjgagimaaGreatDoor

/- tree.Diff, Same. -/
namespace Go.Proofs.YtjcfphdjgagimaaGreatDoor
open Go.RowKit

/-- a tree, or none -/
def TreeP (w : World) (v : Option Addr) (L : List (List UInt8 × LV)) : Prop := (v = none ∧ L = []) ∨ ∃ tb mo, v = some ⟨tb, 0, none⟩ ∧ TreeAt w tb mo L
theorem TreeP.below {w w' : World} {v : Option Addr} {L : List (List UInt8 × LV)} (h : TreeP w v L) (k : Below w.heap.size w w') : TreeP w' v L := h.imp id fun ⟨tb, mo, e, ht⟩ => ⟨tb, mo, e, ht.below k⟩
theorem TreeP.ok {w : World} {v : Option Addr} {L : List (List UInt8 × LV)} (h : TreeP w v L) : TreeOk (plainL L) := by
  rcases h with ⟨_, rfl⟩ | ⟨tb, mo, _, ht⟩
  · exact TreeOk.nil
  · exact ht.plain
end Go.Proofs.YtjcfphdjgagimaaGreatDoor

/- What slices.Compact makes of a sorted row of texts: plain. -/
namespace Go.Proofs.YtjcfphdjgagimaaGreatDoor
open Go.RowKit Go.Lib

end Go.Proofs.YtjcfphdjgagimaaGreatDoor

/- slices.SortFunc of texts by name.Compare: a row of the call's own, in the paths' order. -/
namespace Go.Proofs.YtjcfphdjgagimaaGreatDoor
open Go.Shelf Go.RowKit Go.Lib Go.Sort

/-- a text that is no longer than a text may be -/
abbrev TxtB := { l : List UInt8 // l.length ≤ 9223372036854775807 }
instance : Inhabited TxtB := ⟨⟨[], by simp⟩⟩
def txtV (x : TxtB) : Value := .string ⟨⟨x.1⟩⟩
def cmpX (x y : TxtB) : Int := cmpT x.1 y.1

section
variable {α : Type} [Inhabited α] {enc : α → Value}
theorem heap_sortedG {w : World} {g n : Nat} {os : Array Obj} {cur : Array Value} {e : TypeId} {fr : Nat × Nat} (d : Array α) (hb : w.heap[g]? = some (.cells cur e fr)) :
    (grow (putRow enc (Sort.ahead w n) g 0 d) os).heap[g]? = some (.cells (putCells enc 0 d cur) e fr) := by
  have hg : g < w.heap.size := (Array.getElem?_eq_some_iff.1 hb).1
  rw [heap_grow_old _ _ (by simpa using hg)]
  simp [putRow, mapBlock, Sort.ahead, Array.getElem?_modify, hb, onCells]
theorem grownBy_sortedG {w : World} {g n : Nat} {os : Array Obj} (d : Array α) : w.grownBy (grow (putRow enc (Sort.ahead w n) g 0 d) os) (some g) := by
  refine ⟨rfl, rfl, rfl, by simp, fun k hk hne => ?_⟩
  rw [heap_grow_old _ _ (by simpa using hk)]
  have : g ≠ k := fun e => hne (by rw [e])
  simp [putRow, mapBlock, Sort.ahead, Array.getElem?_modify, this]
theorem take_putCellsG (cur : Array Value) (ts : List α) (h : ts.length ≤ cur.size) : (putCells enc 0 ts.toArray cur).toList.take ts.length = ts.map enc := by
  apply List.ext_getElem?
  intro j
  by_cases hj : j < ts.length
  · rw [List.getElem?_take_of_lt hj, Array.getElem?_toList]
    simp [putCells, hj, show j < cur.size by omega]
  · rw [List.getElem?_take_eq_none (by omega), List.getElem?_eq_none (by simp; omega)]
theorem ownsRow_sortedG {w : World} {base g cap n : Nat} {e : TypeId} {os : Array Obj} {cur : Array Value} {ss ts : List α} (hl : ts.length = ss.length) (hbase : base ≤ g) (hb : w.heap[g]? = some (.cells cur e (0, 0)))
    (h1 : ss.length ≤ cap) (h2 : cap ≤ maxLen) (h3 : cur.size = cap * 1) :
    (grow (putRow enc (Sort.ahead w n) g 0 ts.toArray) os).ownsRow base e 1 (.slice (some ⟨g, 0, none⟩) ss.length cap) ss.length (ts.map enc) :=
  ⟨by simp [hl], .inr ⟨g, cap, _, rfl, hbase, heap_sortedG _ hb, h1, h2, by simp [putCells, h3], by rw [Nat.mul_one, ← hl]; exact take_putCellsG cur ts (by omega)⟩⟩
theorem holds_of_blockG {w : World} {g : Nat} {cur : Array Value} {e : TypeId} {ss : List α} (hb : w.heap[g]? = some (.cells cur e (0, 0))) (ht : cur.toList.take ss.length = ss.map enc) : Holds enc w g 0 ss.toArray := by
  intro j hj
  have hj' : j < ss.length := by simpa using hj
  refine ⟨?_, by simp [World.frozen?, hb]⟩
  have h1 : (cur.toList.take ss.length)[j]? = (ss.map enc)[j]? := by rw [ht]
  rw [List.getElem?_take_of_lt hj'] at h1
  simp only [World.cell?, hb, Nat.zero_add]
  simp only [Option.isSome_none, Bool.false_eq_true, if_false]
  rw [← Array.getElem?_toList, h1]
  simp [hj']
end
theorem cmpX_lt (x y : TxtB) : ltOf cmpX x y = decide (cmpT x.1 y.1 < 0) := rfl
theorem swoX : SWO (ltOf cmpX) where
  irrefl x := by rw [cmpX_lt, cmpT_self]; simp
  trans x y z h1 h2 := by
    rw [cmpX_lt] at *
    simp only [decide_eq_true_eq] at *
    exact ordT.trans _ _ _ h1 h2
  ntrans x y z h1 h2 := by
    rw [cmpX_lt] at *
    have := leT_trans z.1 y.1 x.1 (by simpa [leT] using h2) (by simpa [leT] using h1)
    simpa [leT] using this
theorem totX (x y : TxtB) (h1 : ltOf cmpX x y = false) (h2 : ltOf cmpX y x = false) : x = y := by
  rw [cmpX_lt] at *
  exact Subtype.ext (leT_anti x.1 y.1 (by simpa [leT] using h2) (by simpa [leT] using h1))
theorem cmpReadsX (blk off size : Nat) (w : World) : CmpReads Tryz.prog 31 #[] txtV cmpX blk off size w := by
  intro m os dk _ x y
  refine (compare_any ⟨⟨x.1⟩⟩ ⟨⟨y.1⟩⟩ x.2 y.2 _).mono ?_
  rintro e w' ⟨rfl, hq⟩
  exact ⟨rfl, hq⟩
theorem txts : ∀ (ss : List (List UInt8)), (∀ x ∈ ss, x.length ≤ 140737488355328) → ∃ ts : List TxtB, ts.map Subtype.val = ss
  | [], _ => ⟨[], rfl⟩
  | x :: ss, h => by
    obtain ⟨ts, e⟩ := txts ss (fun y hy => h y (by simp [hy]))
    exact ⟨⟨x, by have := h x (by simp); omega⟩ :: ts, by rw [List.map_cons, e]⟩
set_option maxHeartbeats 1000000 in
/-- a row of texts is sorted by name.Compare -/
theorem sortsT : SortsT := by
  intro base A c ss w hown hl hss
  obtain ⟨ts, hts⟩ := txts ss hl
  have hlen : ts.length = ss.length := by rw [← hts, List.length_map]
  have hmv : ss.map stv = ts.map txtV := by rw [← hts, List.map_map]; rfl
  rcases hown.2 with ⟨hnil, h0⟩ | ⟨g, cap, cur, hv, hbase, hb, h1, h2, h3, h4⟩
  · obtain ⟨rfl, hl0, rfl⟩ : A = none ∧ ss.length = 0 ∧ c = 0 := by simpa using hnil
    obtain rfl : ss = [] := List.eq_nil_of_length_eq_zero hl0
    have hcon := AnyF.slices_SortFunc_none { Tryz.sortT with } none 0 (.func (.func 31) #[] #[]) w
    change Calls Tryz.prog 91 _ _ _ at hcon
    refine hcon.mono ?_
    rintro e w' ⟨rfl, rfl⟩
    exact ⟨rfl, by simpa using hown, World.grownBy.refl _ _⟩
  · obtain ⟨rfl, rfl⟩ : A = some ⟨g, 0, none⟩ ∧ c = cap := by simpa using hv
    have eg : ∀ args w, (callFunc 31 args).run Tryz.prog w = .ok (.enter 31 args) w := enters_of Tryz.func31 (by kernel_rfl) rfl
    have hglt : g < w.heap.size := (Array.getElem?_eq_some_iff.1 hb).1
    have hH : Holds txtV w g 0 ts.toArray := holds_of_blockG hb (by rw [hlen, ← hmv]; simpa using h4)
    have hbig : ss.length < 4611686018427387904 := by omega
    have hcon := Any.slices_SortFunc_total Tryz.sortT txtV (fun _ => rfl) cmpX swoX 31 #[] g 0 c ts.toArray w eg (cmpReadsX g 0 ts.toArray.size w).lays hH hglt (by simpa [hlen] using hbig) totX
    change Calls Tryz.prog 91 _ _ _ at hcon
    rw [show ts.toArray.size = ss.length by simp [hlen]] at hcon
    refine hcon.mono ?_
    rintro e w' ⟨rfl, n, os, rfl⟩
    have hms : (ts.mergeSort fun x y => !(ltOf cmpX) y x).map Subtype.val = ss.mergeSort leT := by
      rw [← hts]
      exact List.map_mergeSort (fun a _ b _ => rfl)
    refine ⟨rfl, ?_, ?_⟩
    · have := ownsRow_sortedG (enc := txtV) (n := n) (os := os) (ts := ts.mergeSort fun x y => !(ltOf cmpX) y x) (ss := ts) (by rw [List.length_mergeSort]) hbase hb (by omega) h2 h3
      rw [hlen] at this
      have e2 : (ss.mergeSort leT).map stv = (ts.mergeSort fun x y => !(ltOf cmpX) y x).map txtV := by rw [← hms, List.map_map]; rfl
      rw [e2]
      exact this
    · exact grownBy_sortedG _
end Go.Proofs.YtjcfphdjgagimaaGreatDoor

/- slices.Compact of a sorted row of texts of the call's own. -/
namespace Go.Proofs.YtjcfphdjgagimaaGreatDoor
open Go.Shelf Go.RowKit Go.Lib Go.Sort

end Go.Proofs.YtjcfphdjgagimaaGreatDoor

/- tree.Diff: the walk. -/
namespace Go.Proofs.YtjcfphdjgagimaaGreatDoor
open Go.RowKit Go.Lib

end Go.Proofs.YtjcfphdjgagimaaGreatDoor

/- tree: Same, and a tree that is none. -/
namespace Go.Proofs.YtjcfphdjgagimaaGreatDoor
open Go.RowKit

theorem treeLen_nil (w : World) : Calls Tryz.prog 18 #[.pointer none] w fun e w' => e = .returned (.int .i64 0) ∧ Below w.heap.size w w' := by
  go_enter Tryz.func18, Tryz.ntmps18
  go_wp2_with fail
  go_ret
  exact ⟨rfl, Below.refl _ _⟩
theorem treeItems_nil (w : World) : Calls Tryz.prog 15 #[.pointer none] w fun e w' => e = .returned (.slice none 0 0) ∧ Below w.heap.size w w' := by
  go_enter Tryz.func15, Tryz.ntmps15
  go_wp2_with fail
  refine (treeall_nil w).mono ?_
  rintro e w1 ⟨rfl, rfl⟩
  go_wp2_with fail
  go_loopw [2, 8] (fun ov iv wr => ov = .slice none 0 0 ∧ iv = .int .i64 0 ∧ Below w.heap.size w wr) (fun _ _ _ => 0)
  case atStart => exact ⟨rfl, rfl, Below.refl _ _⟩
  case round =>
    obtain ⟨rfl, rfl, hb⟩ := hrel
    go_wp2_with fail
    go_ret
    exact ⟨rfl, hb⟩
end Go.Proofs.YtjcfphdjgagimaaGreatDoor

/- tenderlaw08: Plays. -/
namespace Go.Proofs.YtjcfphdjgagimaaGreatDoor
open Go.RowKit Go.Maps

/-- a tree on which items were set, and the document's -/
structure Played (w : World) (T : List (List UInt8 × LP)) (tb : Nat) (mo : Option Nat) (L : List (List UInt8 × LV)) (B : Option Addr) (M : List (List UInt8 × LV)) : Prop where
  tree : TreeAt w tb mo L
  plain : Hid (plainL L = T)
  its : Its w B M
  same : Hid (plainL M = T)
theorem Played.below {w w' : World} {T : List (List UInt8 × LP)} {tb : Nat} {mo : Option Nat} {L M : List (List UInt8 × LV)} {B : Option Addr} (h : Played w T tb mo L B M) (k : Below w.heap.size w w') : Played w' T tb mo L B M := ⟨h.tree.below k, h.plain, h.its.below k, h.same⟩


set_option maxRecDepth 100000 in
set_option maxHeartbeats 1000000 in
theorem plays08_any (A : Option Addr) (c : Nat) (l : List (List UInt8 × LV)) (w : World) (h : ItA w A l) (hl : l.length ≤ 200 ∧ ∀ x ∈ l, x.1.length ≤ 200 ∧ x.2.x.l.length ≤ 20000) :
    Calls Tryz.prog 7 #[.slice A l.length c] w fun e w' => ∃ (tb : Nat) (mo : Option Nat) (L : List (List UInt8 × LV)) (B : Option Addr) (d : Nat) (M : List (List UInt8 × LV)), e = .returned (.tuple #[.pointer (some ⟨tb, 0, none⟩), .slice B M.length d, .bool true]) ∧ Played w' (playS [] (plainL l)) tb mo L B M ∧
      w.heap.size ≤ tb ∧ (∀ m, mo = some m → w.heap.size ≤ m) ∧ Below w.heap.size w w' := by
  have HA := Lib.hid h
  clear h
  go_enter Tryz.func7, Tryz.ntmps7
  go_wp2_with fail
  refine (treeNew_nil w).mono ?_
  rintro e w1 ⟨rfl, ht1, hb1⟩
  obtain ⟨tb, htb⟩ : ∃ tb, tb = w.heap.size := ⟨_, rfl⟩
  rw [← htb] at ht1
  rw [← htb]
  have HT1 := Lib.hid ht1
  have htw : w.heap.size ≤ tb := by omega
  clear ht1 htb
  go_wp2_with fail
  go_loopw [7, 24] (fun wv iv wr => ∃ (i : Nat) (mo : Option Nat) (L : List (List UInt8 × LV)) (B : Option Addr) (d : Nat) (M : List (List UInt8 × LV)), i ≤ l.length ∧ iv = .int .i64 (i : Int) ∧ wv = .slice B M.length d ∧ Played wr (playS [] (plainL (l.take i))) tb mo L B M ∧ (∀ m, mo = some m → w.heap.size ≤ m) ∧ Below w.heap.size w wr) (fun _ iv _ => l.length - (intOf iv).toNat)
  case atStart => exact ⟨0, none, [], none, 0, [], Nat.zero_le _, rfl, rfl, ⟨HT1.out, rfl, Its.nil _, rfl⟩, by simp, hb1⟩
  case round =>
    obtain ⟨i, mo, L, B, d, M, hi, rfl, rfl, hP, hmo, hb⟩ := hrel
    by_cases hlt : i < l.length
    · have hA := HA.out.below hb
      obtain ⟨b, off, rfl, hbb, hc0, hc1, hc2⟩ := hA.at_ hlt
      have hxo := hA.ok _ (List.getElem_mem hlt)
      have hxl := hl.2 _ (List.getElem_mem hlt)
      have hps : Hid (playS [] (plainL (l.take (i + 1))) = setS (playS [] (plainL (l.take i))) l[i].1 l[i].2.p) := Lib.hid (by rw [plain_snoc l i hlt, play_snoc])
      have hsz := hb.size
      obtain ⟨x, hx⟩ : ∃ x, x = l[i] := ⟨_, rfl⟩
      rw [← hx] at hc0 hc1 hc2 hxo hxl hps
      simp only [stv] at hc0
      obtain ⟨T, hT⟩ : ∃ T, T = playS [] (plainL (l.take i)) := ⟨_, rfl⟩
      rw [← hT] at hP hps
      have hba : Below wr.heap.size wr (wr.alloc (.cells #[.string ⟨⟨x.1⟩⟩, .int .i64 x.2.k, .slice x.2.x.A x.2.x.l.length x.2.x.c] 48)) := (Below.refl _ _).alloc (Nat.le_refl _) _
      have xb := Blk.new wr 48 #[.string ⟨⟨x.1⟩⟩, .int .i64 x.2.k, .slice x.2.x.A x.2.x.l.length x.2.x.c]
      have hP1 := hP.below hba
      have hw1 := hb.trans (hba.mono hb.size)
      have HX1 := Lib.hid (hxo.1.x.below hba)
      have HP1 := Lib.hid hP1
      have htl := hP.tree.blk.lt
      have hml := hP.tree.lt
      obtain ⟨hx1, hx2⟩ := hxl
      have hok : TreeOk (plainL M) := by rw [hP.same.out, ← hP.plain.out]; exact hP.tree.plain
      have hMS : mayS (plainL M) x.1 (x.2.k, x.2.x.l) = mayS T x.1 (x.2.k, x.2.x.l) := by rw [hP.same.out]
      have HLM : Hid (mayS (plainL L) x.1 (x.2.k, x.2.x.l) = mayS T x.1 (x.2.k, x.2.x.l)) := Lib.hid (by rw [hP.plain.out])
      have q0 := xb.cell 0
      have q1 := xb.cell 1
      have q2 := xb.cell 2
      simp only [List.getElem?_toArray, List.getElem?_cons_zero, List.getElem?_cons_succ] at q0 q1 q2
      clear hP hA hxo hx hT hP1
      go_wp2_with fail
      refine (refSet_any B d M x.1 x.2.k x.2.x.A x.2.x.c x.2.x.l _ HP1.out.its hok (HX1.out.mono (fun _ _ _ => trivial)) (by omega) (by omega)).mono ?_
      rintro e w2 ⟨B2, d2, M2, rfl, hM2, hI2, hb2⟩
      rw [hMS] at hM2 ⊢
      have HM2 : Hid (plainL M2 = playS [] (plainL (l.take (i + 1)))) := Lib.hid (by have := plain_step M x.1 x.2; rw [hM2.out, ← hMS]; refine this.trans ?_; rw [HP1.out.same.out, hps.out])
      have HI2 := Lib.hid hI2
      have HT2 := Lib.hid (HP1.out.tree.below hb2)
      have HX2 := Lib.hid ((HX1.out.below hb2).1)
      have xb2 := xb.below hb2
      have hw2 := hw1.trans (hb2.mono hw1.size)
      have hxn : ¬ (wr.heap.size = tb ∨ mo = some wr.heap.size) := by
        rintro (e | e)
        · omega
        · have := hml _ e; omega
      have q0 := xb2.cell 0
      have q1 := xb2.cell 1
      have q2 := xb2.cell 2
      simp only [List.getElem?_toArray, List.getElem?_cons_zero, List.getElem?_cons_succ] at q0 q1 q2
      have HPS : Hid (setS (plainL L) x.1 (x.2.k, x.2.x.l) = playS [] (plainL (l.take (i + 1)))) := Lib.hid (by rw [hps.out, HP1.out.plain.out]; rfl)
      clear hM2 hI2 hb2 HX1 xb hps HP1 hok
      have HMT := Lib.hid hMS
      obtain ⟨ms, hms⟩ : ∃ ms, ms = mayS T x.1 (x.2.k, x.2.x.l) := ⟨_, rfl⟩
      have HMS : Hid (mayS (plainL L) x.1 (x.2.k, x.2.x.l) = ms) := Lib.hid (by rw [HLM.out, hms])
      rw [← hms]
      clear hms hMS HLM HMT
      go_wp2_with fail
      refine (treeSet_any sortsT tb mo L x.1 x.2.k x.2.x.A x.2.x.c x.2.x.l _ w2 HT2.out HX2.out (by omega) (by omega)).mono ?_
      rintro e w3 ⟨rfl, hto⟩
      rw [HMS.out]
      obtain ⟨⟨mo', L', hT3, hL3, hmo3⟩, hfr⟩ := hto
      have HI3 := Lib.hid (HI2.out.set HT2.out hfr)
      have HT3 := Lib.hid hT3
      have hL4 : Hid (plainL L' = playS [] (plainL (l.take (i + 1)))) := Lib.hid (hL3.out.trans HPS.out)
      have hw3 : Below w.heap.size w w3 := hw2.trans (hfr.below hw2.size (fun k hk e => by
        rcases e with e | e
        · omega
        · have := hmo _ e; omega))
      have hmo4 : ∀ m, mo' = some m → w.heap.size ≤ m := fun m e => by
        rcases hmo3 m e with e | e
        · exact hmo m e
        · have := hw2.size; omega
      clear hT3 hfr hL3 HI2 HT2 HX2 xb2 hmo3 q0 q1 q2 HPS HMS
      go_wp2_with fail
      go_roundw
      case rel => exact ⟨i + 1, mo', L', B2, d2, M2, hlt, by go_num, rfl, ⟨HT3.out, hL4, HI3.out, HM2⟩, hmo4, hw3⟩
      case measure => simp [intOf]; omega
    · have e : i = l.length := by omega
      subst e
      rw [List.take_length] at hP
      go_wp2_with fail
      go_ret3
      exact ⟨tb, mo, L, B, d, M, rfl, hP, htw, hmo, hb⟩

end Go.Proofs.YtjcfphdjgagimaaGreatDoor

/- The bytes of numbers and texts, as plain lists. -/
namespace Go.Proofs.YtjcfphdjgagimaaGreatDoor
open Go.RowKit

def dg : Nat → Nat → List UInt8 → List UInt8
  | 0, _, acc => acc
  | f + 1, n, acc => if n = 0 then acc else dg f (n / 256) (UInt8.ofNat (n % 256) :: acc)
def digs (n : Nat) : List UInt8 := dg 8 n []
def numB (n : Nat) : List UInt8 := UInt8.ofNat (digs n).length :: digs n
def textB (l : List UInt8) : List UInt8 := numB l.length ++ l

theorem bv_ofNat {m : Nat} (h : m < 256) : bv (UInt8.ofNat m) = .int .u8 (m : Int) := by
  unfold bv
  rw [UInt8.toNat_ofNat']
  rw [Nat.mod_eq_of_lt h]

theorem dg_zero (f : Nat) (acc : List UInt8) : dg f 0 acc = acc := by cases f <;> simp [dg]
theorem dg_len : ∀ (f n : Nat) (acc : List UInt8), (dg f n acc).length ≤ f + acc.length
  | 0, _, acc => by simp [dg]
  | f + 1, n, acc => by
    unfold dg
    split
    · omega
    · have := dg_len f (n / 256) (UInt8.ofNat (n % 256) :: acc)
      simp only [List.length_cons] at this
      omega
theorem digs_len (n : Nat) : (digs n).length ≤ 8 := by have := dg_len 8 n []; simpa [digs] using this
theorem numB_len (n : Nat) : (numB n).length ≤ 9 := by simp only [numB, List.length_cons]; have := digs_len n; omega

theorem dg_app : ∀ (f n : Nat) (acc : List UInt8), dg f n acc = dg f n [] ++ acc
  | 0, _, acc => by simp [dg]
  | f + 1, n, acc => by
    unfold dg
    split
    · simp
    · rw [dg_app f (n / 256) (_ :: acc), dg_app f (n / 256) [_], List.append_assoc]
      rfl
/-- one digit more -/
theorem dg_fuel : ∀ (f n : Nat), n < 256 ^ f → ∀ k, dg (f + k) n [] = dg f n []
  | 0, n, h, k => by
    have : n = 0 := by simpa using h
    subst this
    rw [dg_zero, dg_zero]
  | f + 1, n, h, k => by
    rw [show f + 1 + k = (f + k) + 1 by omega]
    unfold dg
    split
    · rfl
    · have h' : n / 256 < 256 ^ f := by
        rw [Nat.div_lt_iff_lt_mul (by omega)]
        rw [Nat.pow_succ] at h
        exact h
      rw [dg_app (f + k), dg_app f, dg_fuel f _ h' k]
theorem digs_step {n : Nat} (h0 : 0 < n) (h : n < 18446744073709551616) : digs n = digs (n / 256) ++ [UInt8.ofNat (n % 256)] := by
  have e : dg 8 n [] = dg 7 (n / 256) [UInt8.ofNat (n % 256)] := by
    conv => lhs; unfold dg
    rw [if_neg (by omega)]
  have h' : n / 256 < 256 ^ 7 := by omega
  unfold digs
  rw [e, dg_app, dg_fuel 7 (n / 256) h' 1]
theorem digs_zero : digs 0 = [] := dg_zero 8 []
theorem pow_le8 {f : Nat} (h : f ≤ 8) : 256 ^ f ≤ 18446744073709551616 := Nat.le_trans (Nat.pow_le_pow_right (by decide) h) (by decide)
theorem dg_cons {f m : Nat} (h0 : 0 < m) (acc : List UInt8) : dg (f + 1) m acc = dg f (m / 256) (UInt8.ofNat (m % 256) :: acc) := by
  conv => lhs; unfold dg
  rw [if_neg (by omega)]

theorem digs_range : ∀ (k n : Nat), k ≤ 8 → n < 256 ^ k → n < 256 ^ (digs n).length ∧ (0 < n → 256 ^ ((digs n).length - 1) ≤ n ∧ 0 < (digs n).length)
  | 0, n, _, h => by
    have : n = 0 := by simpa using h
    subst this
    rw [digs_zero]
    simp
  | k + 1, n, hk, h => by
    rcases Nat.eq_zero_or_pos n with h0 | h0
    · subst h0
      rw [digs_zero]
      simp
    · have h64 : n < 18446744073709551616 := Nat.lt_of_lt_of_le h (pow_le8 hk)
      have h' : n / 256 < 256 ^ k := by
        rw [Nat.div_lt_iff_lt_mul (by omega)]
        rw [Nat.pow_succ] at h
        exact h
      obtain ⟨i1, i2⟩ := digs_range k (n / 256) (by omega) h'
      rw [digs_step h0 h64, List.length_append, List.length_singleton, Nat.add_sub_cancel]
      refine ⟨?_, fun _ => ⟨?_, by omega⟩⟩
      · rw [Nat.pow_succ]; omega
      · rcases Nat.eq_zero_or_pos (n / 256) with h1 | h1
        · rw [h1, digs_zero]; simp; omega
        · obtain ⟨j1, j2⟩ := i2 h1
          obtain ⟨m, hm⟩ : ∃ m, (digs (n / 256)).length = m + 1 := ⟨_, (Nat.succ_pred_eq_of_pos j2).symm⟩
          rw [hm] at j1 ⊢
          rw [Nat.add_sub_cancel] at j1
          rw [Nat.pow_succ]
          omega

theorem bitAux_range : ∀ (f n : Nat), n < 2 ^ f → n < 2 ^ Lib.bitLenAux f n ∧ (0 < n → 2 ^ (Lib.bitLenAux f n - 1) ≤ n) ∧ Lib.bitLenAux f n ≤ f
  | 0, n, h => by
    have : n = 0 := by simpa using h
    subst this
    simp [Lib.bitLenAux]
  | f + 1, n, h => by
    unfold Lib.bitLenAux
    split
    · rename_i h0; subst h0; simp
    · rename_i h0
      have h' : n / 2 < 2 ^ f := by rw [Nat.pow_succ] at h; omega
      obtain ⟨i1, i2, i3⟩ := bitAux_range f (n / 2) h'
      refine ⟨by rw [Nat.add_comm, Nat.pow_succ]; omega, fun _ => ?_, by omega⟩
      rw [Nat.add_sub_cancel_left]
      rcases Nat.eq_zero_or_pos (n / 2) with h1 | h1
      · rw [h1]
        have : Lib.bitLenAux f 0 = 0 := by cases f <;> simp [Lib.bitLenAux]
        rw [this]
        simp; omega
      · have j := i2 h1
        have hb : 0 < Lib.bitLenAux f (n / 2) := by
          rcases Nat.eq_zero_or_pos (Lib.bitLenAux f (n / 2)) with hz | hz
          · rw [hz] at i1; simp at i1; omega
          · exact hz
        obtain ⟨m, hm⟩ : ∃ m, Lib.bitLenAux f (n / 2) = m + 1 := ⟨_, (Nat.succ_pred_eq_of_pos hb).symm⟩
        rw [hm] at j ⊢
        rw [Nat.add_sub_cancel] at j
        rw [Nat.pow_succ]
        omega

theorem bitLen_le {n : Nat} (h : n < 18446744073709551616) : Lib.bitLen n ≤ 64 := (bitAux_range 64 n h).2.2
theorem bitLen_wd {n : Nat} (h : n < 18446744073709551616) : (Lib.bitLen n + 7) / 8 = (digs n).length := by
  obtain ⟨a1, a2, a3⟩ := bitAux_range 64 n h
  obtain ⟨b1, b2⟩ := digs_range 8 n (by omega) h
  rcases Nat.eq_zero_or_pos n with h0 | h0
  · subst h0
    rw [digs_zero]
    decide
  · have a4 := a2 h0
    obtain ⟨b3, b4⟩ := b2 h0
    have p1 : ∀ k : Nat, 256 ^ k = 2 ^ (8 * k) := fun k => by rw [Nat.pow_mul]
    rw [p1] at b1 b3
    unfold Lib.bitLen
    generalize Lib.bitLenAux 64 n = b at *
    generalize (digs n).length = d at *
    have c1 : 8 * (d - 1) < b := (Nat.pow_lt_pow_iff_right (by decide : 1 < 2)).1 (Nat.lt_of_le_of_lt b3 a1)
    have c2 : b - 1 < 8 * d := (Nat.pow_lt_pow_iff_right (by decide : 1 < 2)).1 (Nat.lt_of_le_of_lt a4 b1)
    omega

theorem digs_get : ∀ (k n i : Nat), n < 18446744073709551616 → k + 1 + i = (digs n).length → (digs n).getD i 0 = UInt8.ofNat (n / 256 ^ k % 256)
  | k, n, i, h, hk => by
    have h0 : 0 < n := by
      rcases Nat.eq_zero_or_pos n with h0 | h0
      · subst h0; rw [digs_zero] at hk; simp at hk
      · exact h0
    rw [digs_step h0 h, List.length_append, List.length_singleton] at hk
    rw [digs_step h0 h]
    rcases k with _ | k
    · rw [List.getD_eq_getElem?_getD, List.getElem?_append_right (by omega), show i - (digs (n / 256)).length = 0 by omega]
      simp
    · rw [List.getD_eq_getElem?_getD, List.getElem?_append_left (by omega), ← List.getD_eq_getElem?_getD, digs_get k (n / 256) i (by omega) (by omega), Nat.div_div_eq_div_mul, Nat.pow_succ', ]

theorem bv_digit {n k i : Nat} (hn : n < 18446744073709551616) (hk : k + 1 + i = (digs n).length) :
    bv ((digs n).getD i 0) = .int .u8 (IntKind.u8.wrap ((n : Int) / 2 ^ min (8 * (k : Int)).toNat 64)) := by
  have h8 := digs_len n
  rw [digs_get k n i hn hk, bv_ofNat (by omega), IntKind.wrap_u8]
  have e : min (8 * (k : Int)).toNat 64 = 8 * k := by omega
  rw [e]
  have : ((n / 256 ^ k % 256 : Nat) : Int) = (n : Int) / (2 : Int) ^ (8 * k) % 256 := by
    rw [show (256 : Nat) ^ k = 2 ^ (8 * k) by rw [Nat.pow_mul]]
    simp
  rw [← this]
end Go.Proofs.YtjcfphdjgagimaaGreatDoor

/- A leaf's bytes, plainly. -/
namespace Go.Proofs.YtjcfphdjgagimaaGreatDoor
open Go.RowKit

/-- a leaf's bytes -/
def leafB (k : Int) (l : List UInt8) : List UInt8 := if checkN k l.length ≠ 0 then numB 0 else if k = 1 then numB 1 ++ textB l else numB k.toNat
theorem leafB_bad {k : Int} {l : List UInt8} (h : checkN k l.length ≠ 0) : leafB k l = numB 0 := by unfold leafB; rw [if_pos h]
theorem leafB_file {k : Int} {l : List UInt8} (h : checkN k l.length = 0) (hk : k = 1) : leafB k l = numB 1 ++ textB l := by unfold leafB; rw [if_neg (by simpa using h), if_pos hk]
theorem leafB_other {k : Int} {l : List UInt8} (h : checkN k l.length = 0) (hk : k ≠ 1) : leafB k l = numB k.toNat := by unfold leafB; rw [if_neg (by simpa using h), if_neg hk]
theorem leafB_len (k : Int) (l : List UInt8) : (leafB k l).length ≤ 18 + l.length := by
  have h0 := numB_len 0
  have h1 := numB_len 1
  have h2 := numB_len k.toNat
  have h3 := numB_len l.length
  unfold leafB textB
  split
  · omega
  · split
    · simp only [List.length_append]; omega
    · omega
theorem checkN_ok {k : Int} {n : Nat} (h : checkN k n = 0) : (k = 0 ∨ k = 1 ∨ k = 2) ∧ (k ≠ 1 → n = 0) ∧ n ≤ 4096 := by
  unfold checkN at h
  split at h
  · rename_i h1
    split at h
    · exact ⟨.inr (.inl h1), fun h2 => absurd h1 h2, by assumption⟩
    · simp at h
  · split at h
    · rename_i h1 h2
      split at h
      · rename_i h3
        exact ⟨h2.elim .inl (fun h => .inr (.inr h)), fun _ => h3, by omega⟩
      · simp at h
    · simp at h
/-- bytes that leaves take at most -/
def wideL (ls : List LV) : Nat := (ls.map fun o => 18 + o.x.l.length).sum
theorem wideL_take (ls : List LV) (i : Nat) (hi : i < ls.length) : (ls.take i |>.flatMap fun o => leafB o.k o.x.l).length + (18 + ls[i].x.l.length) ≤ wideL ls := by
  have h1 : ∀ cs : List LV, (cs.flatMap fun o => leafB o.k o.x.l).length ≤ wideL cs := by
    intro cs
    induction cs with
    | nil => simp [wideL]
    | cons x cs ih =>
      have := leafB_len x.k x.x.l
      simp only [wideL, List.flatMap_cons, List.length_append, List.map_cons, List.sum_cons] at ih ⊢
      omega
  have h2 := h1 (ls.take i)
  have h3 : wideL (ls.take i) + (18 + ls[i].x.l.length) ≤ wideL ls := by
    have e : ls = ls.take i ++ ls[i] :: ls.drop (i + 1) := by simp
    have e2 : wideL ls = wideL (ls.take i ++ ls[i] :: ls.drop (i + 1)) := congrArg wideL e
    rw [e2]
    simp only [wideL, List.map_append, List.map_cons, List.sum_append, List.sum_cons]
    omega
  omega
theorem wideL_len : ∀ ls : List LV, ls.length ≤ wideL ls
  | [] => by simp
  | x :: ls => by
    have := wideL_len ls
    simp only [wideL, List.map_cons, List.sum_cons, List.length_cons] at this ⊢
    omega
end Go.Proofs.YtjcfphdjgagimaaGreatDoor

/- tenderref01: Num, Text, Same. -/
namespace Go.Proofs.YtjcfphdjgagimaaGreatDoor
open Go.RowKit

set_option maxHeartbeats 400000 in
theorem refNum_any (n : Nat) (w : World) (hn : n < 18446744073709551616) :
    Calls Tryz.prog 34 #[.int .u64 n] w fun e w' => ∃ v, e = .returned v ∧ OwB w' w.heap.size v (numB n) ∧ Below w.heap.size w w' := by
  obtain ⟨i0, hi0, hz0, hz1, hz2⟩ := info_parts u8_info
  go_enter Tryz.func34, Tryz.ntmps34
  go_wp2
  go_loopw [0, 3] (fun nv dv wr => ∃ (m f : Nat) (acc : List UInt8), m < 256 ^ f ∧ nv = .int .u64 (m : Int) ∧ OwB wr w.heap.size dv acc ∧ acc.length + f = 8 ∧ Hid (dg f m acc = digs n) ∧ Below w.heap.size w wr) (fun nv _ _ => (intOf nv).toNat)
  case atStart => exact ⟨n, 8, [], hn, rfl, World.ownsRow_nil _ _ _ _, rfl, rfl, Below.refl _ _⟩
  case round =>
    obtain ⟨m, f, acc, hm, rfl, hd, hf, hdg, hb⟩ := hrel
    obtain ⟨A, c, rfl, hc, hcm, hA⟩ := hd.form
    have hsz := hb.size
    by_cases h0 : 0 < m
    · have hr := hd.rd
      have hm64 : m < 18446744073709551616 := Nat.lt_of_lt_of_le hm (pow_le8 (by omega))
      obtain ⟨f, rfl⟩ : ∃ k, f = k + 1 := by
        rcases f with _ | k
        · simp at hm; omega
        · exact ⟨k, rfl⟩
      go_wp2_with (at_builtin; refine wpList_append_by rfl (.tmp 9) (.tmp 10) rfl (v := .slice (some ⟨wr.heap.size, 0, none⟩) 1 1) rfl (OwB.lit1 wr (b := UInt8.ofNat (m % 256)) (by rw [bv_ofNat (by omega)]; rfl) hsz) rfl (hr.alloc _) (by simp; omega) (by simp; omega) ?_; intro L1 A1 c1 w1 hL1 hown hg hat)
      go_roundw
      case rel => 
        have hL : L1 = UInt8.ofNat (m % 256) :: acc := hL1.out
        subst hL
        refine ⟨m / 256, f, UInt8.ofNat (m % 256) :: acc, ?_, rfl, hown, ?_, ?_, ?_⟩
        · rw [Nat.div_lt_iff_lt_mul (by omega)]; rw [Nat.pow_succ] at hm; exact hm
        · simp; omega
        · rw [← dg_cons h0]; exact hdg
        · exact ((hb.alloc hsz _).grown hg (by simp; omega) (by simp [Value.ownBlock]; omega))
      case measure => simp [intOf]; omega
    · have e0 : m = 0 := by omega
      subst e0
      have hr := hd.rd
      rw [dg_zero] at hdg
      have hl := digs_len n
      go_wp2_with (at_builtin; refine wpList_append_by rfl (.tmp 17) (.tmp 18) rfl (v := .slice (some ⟨wr.heap.size, 0, none⟩) 1 1) rfl (OwB.lit1 wr (b := UInt8.ofNat acc.length) (by rw [bv_ofNat (by omega)]) hsz) rfl (hr.alloc _) (by simp; omega) (by simp; omega) ?_; intro L1 A1 c1 w1 hL1 hown hg hat)
      go_ret
      refine ⟨_, rfl, ?_, ?_⟩
      · have hL : L1 = UInt8.ofNat acc.length :: acc := hL1.out
        subst hL
        unfold numB; rw [← hdg.out]; exact hown
      · exact ((hb.alloc hsz _).grown hg (by simp; omega) (by simp [Value.ownBlock]; omega))

set_option maxHeartbeats 400000 in
theorem refText_any (A : Option Addr) (c : Nat) (l : List UInt8) (Z : Nat → Prop) (w : World) (hl : By w Z A l) (hn : l.length ≤ 70368744177664) :
    Calls Tryz.prog 35 #[.slice A l.length c] w fun e w' => ∃ v, e = .returned v ∧ OwB w' w.heap.size v (textB l) ∧ Below w.heap.size w w' := by
  have hL := numB_len l.length
  go_enter Tryz.func35, Tryz.ntmps35
  go_wp2_with fail
  refine (refNum_any l.length _ (by omega)).mono ?_
  rintro e w1 ⟨v1, rfl, h1, hb1⟩
  obtain ⟨A0, c0, rfl, hc0, hcm0, hA0⟩ := h1.form
  have hs1 := hb1.size
  go_wp2_with (at_builtin; refine wpList_append_by rfl (.tmp 6) (.tmp 7) rfl (v := .slice A0 (numB l.length).length c0) rfl h1 rfl (hl.below hb1) (by omega) hb1.size ?_; intro L2 A2 c2 w2 hL2 hown hg hat)
  go_ret
  have hL : L2 = textB l := hL2.out
  subst hL
  exact ⟨_, rfl, hown, hb1.grown hg hs1 (fun k hk => (h1.lt k hk).1)⟩

set_option maxHeartbeats 400000 in
theorem refSame_any (A B : Option Addr) (c d : Nat) (l m : List UInt8) (Z Z' : Nat → Prop) (w : World) (hl : By w Z A l) (hm : By w Z' B m) :
    Calls Tryz.prog 10 #[.slice A l.length c, .slice B m.length d] w fun e w' => e = .returned (.bool (l == m)) ∧ w = w' := by
  have k1 := conv_by hl c
  have k2 := conv_by hm d
  go_enter Tryz.func10, Tryz.ntmps10
  go_wp2
  go_ret
  exact ⟨rfl, rfl⟩
end Go.Proofs.YtjcfphdjgagimaaGreatDoor

/- grain.Pen: num, Num, Truth, Text, Bytes. -/
namespace Go.Proofs.YtjcfphdjgagimaaGreatDoor
open Go.RowKit

/-- The pen at block pb has the buffer v, which reads as l. -/
structure Pen (w : World) (base pb : Nat) (v : Value) (l : List UInt8) : Prop where
  blk : Blk w pb 55 #[v]
  own : OwB w base v l

/-- What a pen's method leaves: the pen has l', and only the pen and its buffer have turned. -/
structure PenTo (w : World) (base pb : Nat) (v : Value) (l' : List UInt8) (w' : World) (v' : Value) : Prop where
  pen : Pen w' base pb v' l'
  fr : Fr (fun k => k = pb ∨ v.ownBlock = some k) w w'
  at_ : v'.ownBlock = v.ownBlock ∨ ∃ g, v'.ownBlock = some g ∧ w.heap.size ≤ g

theorem Pen.cell {w : World} {base pb : Nat} {v : Value} {l : List UInt8} (h : Pen w base pb v l) : w.cell? ⟨pb, 0, none⟩ = some v := h.blk.cell 0
theorem Pen.frozen {w : World} {base pb : Nat} {v : Value} {l : List UInt8} (h : Pen w base pb v l) : w.frozen? ⟨pb, 0, none⟩ = false := h.blk.frozen 0
theorem Pen.ne {w : World} {base pb : Nat} {v : Value} {l : List UInt8} (h : Pen w base pb v l) : v.ownBlock ≠ some pb := h.blk.own_ne h.own (by decide)
theorem Pen.alloc {w : World} {base pb : Nat} {v : Value} {l : List UInt8} (h : Pen w base pb v l) (o : Obj) : Pen (w.alloc o) base pb v l := ⟨h.blk.alloc o, h.own.alloc o⟩
theorem Pen.below {w w' : World} {base pb : Nat} {v : Value} {l : List UInt8} (h : Pen w base pb v l) (k : Below w.heap.size w w') : Pen w' base pb v l := ⟨h.blk.below k, h.own.below k⟩
theorem PenTo.refl {w : World} {base pb : Nat} {v : Value} {l : List UInt8} (h : Pen w base pb v l) : PenTo w base pb v l w v := ⟨h, Fr.refl _ _, .inl rfl⟩
theorem PenTo.trans {a b c : World} {base pb : Nat} {v v' v'' : Value} {l l' : List UInt8} (h : PenTo a base pb v l b v') (k : PenTo b base pb v' l' c v'') : PenTo a base pb v l' c v'' := by
  refine ⟨k.pen, h.fr.trans k.fr ?_, ?_⟩
  · intro x hx hS
    rcases hS with hS | hS
    · exact .inl hS
    · rcases h.at_ with e | ⟨g, e, hg⟩
      · exact .inr (by rw [← e]; exact hS)
      · rw [e] at hS
        injection hS with hS
        omega
  · rcases k.at_ with e | ⟨g, e, hg⟩
    · rw [e]; exact h.at_
    · exact .inr ⟨g, e, by have := h.fr.size; omega⟩
/-- new memory ahead of a pen's method -/
theorem PenTo.after {a b c : World} {base pb : Nat} {v v' : Value} {l l' : List UInt8} (h : Pen a base pb v l) (k : Below a.heap.size a b) (h' : PenTo b base pb v l' c v') : PenTo a base pb v l' c v' :=
  (⟨h.below k, Fr.of_below k _, .inl rfl⟩ : PenTo a base pb v l b v).trans h'
/-- the step of all: append onto the buffer, store it back -/
theorem PenTo.stored {a b c : World} {base pb : Nat} {v v' : Value} {l l' : List UInt8} (h : Pen a base pb v l) (k : Below a.heap.size a b) (hown : OwB c base v' l') (hg : b.grownBy c v.ownBlock) (hat : v'.ownBlock = v.ownBlock ∨ v'.ownBlock = some b.heap.size) :
    PenTo a base pb v l' (c.setCell ⟨pb, 0, none⟩ v') v' := by
  have hpb := h.blk.lt
  have hb : Pen b base pb v l := h.below k
  have hblk : Blk c pb 55 #[v] := hb.blk.grown hg hb.ne
  have hne : v'.ownBlock ≠ some pb := hblk.own_ne hown (by decide)
  have f1 : Fr (fun x => x = pb ∨ v.ownBlock = some x) a c := (Fr.of_below k _).trans (Fr.of_grown hg (S := fun x => v.ownBlock = some x) (fun _ _ e => e)) (fun x _ e => .inr e)
  refine ⟨⟨?_, ?_⟩, f1.setCell (fun _ => .inl rfl) _, ?_⟩
  · have := hblk.set_ 0 v'
    simpa using this
  · exact own_fr hown (S := fun x => x = pb) ((Fr.refl (fun x => x = pb) c).setCell (p := ⟨pb, 0, none⟩) (fun _ => rfl) v') (fun g hg' e => hne (by rw [hg', e]))
  · rcases hat with e | e
    · exact .inl e
    · exact .inr ⟨_, e, k.size⟩

theorem hid_take0 {L a d : List UInt8} (h : L = a) : Hid (L = a ++ d.take 0) := by rw [List.take_zero, List.append_nil]; exact h

theorem hid_take {L L' a d : List UInt8} {i : Nat} (h : L = a ++ d.take i) (h' : L' = L ++ [d.getD i 0]) (hi : i < d.length) : Hid (L' = a ++ d.take (i + 1)) := by
  show L' = a ++ d.take (i + 1)
  rw [h', h, List.append_assoc, List.take_succ_eq_append_getElem hi, List.getD_eq_getElem?_getD, List.getElem?_eq_getElem hi]
  rfl

theorem len64_any (n : Nat) (w : World) (hn : n < 18446744073709551616) :
    Calls Tryz.prog 86 #[.int .u64 n] w fun e w' => ∃ b : Nat, e = .returned (.int .i64 b) ∧ b ≤ 64 ∧ (b + 7) / 8 = (digs n).length ∧ w = w' := by
  refine (Tryz.bits_Len64 _ _ (by omega) (by omega)).mono ?_
  rintro e w' ⟨rfl, hw⟩
  exact ⟨_, rfl, bitLen_le (by simpa using hn), bitLen_wd (by simpa using hn), hw.symm⟩

set_option maxHeartbeats 400000 in
theorem num_any (base pb : Nat) (v : Value) (l : List UInt8) (n : Nat) (w : World) (hp : Pen w base pb v l) (hbase : base ≤ w.heap.size) (hn : n < 18446744073709551616) (hlen : l.length + 9 ≤ 140737488355328) :
    Calls Tryz.prog 58 #[.pointer (some ⟨pb, 0, none⟩), .int .u64 n] w fun e w' => e = .returned (.tuple #[]) ∧ ∃ v', PenTo w base pb v (l ++ numB n) w' v' := by
  have hc := hp.cell
  have hf := hp.frozen
  have hpb := hp.blk.lt
  obtain ⟨A, c, rfl, hlc, hcm, hA⟩ := hp.own.form
  go_enter Tryz.func58, Tryz.ntmps58
  go_wp2_with fail
  refine (len64_any _ _ hn).mono ?_
  rintro e w' ⟨b, rfl, hb, hw, rfl⟩
  have Hw := Lib.hid hw
  clear hw
  go_wp2_with (at_builtin; refine wpList_append_by rfl (.tmp 14) (.tmp 17) rfl (v := .slice A l.length c) rfl (hp.own.alloc _) rfl (OwB.lit1 w (base := 0) (b := UInt8.ofNat ((b + 7) / 8)) (by rw [bv_ofNat (by omega)]; rfl) (by omega)).rd (by simp; omega) (by simp; omega) ?_; intro L1 A1 c1 w1 hL1 hown hg hat; have hst := PenTo.stored hp ((Below.refl _ _).alloc (Nat.le_refl _) _) hown hg hat; have hc1 : w1.cell? ⟨pb, 0, none⟩ = some (.slice A l.length c) := ((hp.alloc _).blk.grown hg hp.ne).cell 0; have hf1 : w1.frozen? ⟨pb, 0, none⟩ = false := ((hp.alloc _).blk.grown hg hp.ne).frozen 0)
  rw [show ((b : Int) + 7) / 8 = ((digs n).length : Int) by rw [← Hw.out]; omega]
  rw [Hw.out] at hL1
  have hd8 := digs_len n
  generalize w1.setCell ⟨pb, 0, none⟩ (.slice A1 L1.length c1) = w2 at hst ⊢
  clear hown hg hat hc1 hf1
  have HP := Lib.hid hp
  clear hp hc hf hA
  go_loopw [22] (fun iv wr => ∃ (i : Nat) (Li : List UInt8) (Ai : Option Addr) (ci : Nat), i ≤ (digs n).length ∧ iv = .int .i64 (i : Int) ∧ PenTo w base pb (.slice A l.length c) Li wr (.slice Ai Li.length ci) ∧ Hid (Li = (l ++ [UInt8.ofNat (digs n).length]) ++ (digs n).take i)) (fun iv _ => (digs n).length - (intOf iv).toNat)
  case atStart => exact ⟨0, L1, A1, c1, Nat.zero_le _, rfl, hst, hid_take0 hL1.out⟩
  case round =>
    obtain ⟨i, Li, Ai, ci, hi, rfl, hpi, hLi⟩ := hrel
    clear hst
    have hc1 := hpi.pen.cell
    have hf1 := hpi.pen.frozen
    have hsz := hpi.fr.size
    have hpr := hpi.pen.blk.lt
    by_cases hlt : i < (digs n).length
    · go_wp2_with fail
      obtain ⟨k, hk⟩ : ∃ k : Nat, k + 1 + i = (digs n).length := ⟨(digs n).length - 1 - i, by omega⟩
      have w1' : IntKind.i64.wrap (((digs n).length : Int) - 1) = ((digs n).length : Int) - 1 := IntWalk.i64_in _ (by omega)
      have w2' : IntKind.i64.wrap (((digs n).length : Int) - 1 - i) = (k : Int) := by rw [show ((digs n).length : Int) - 1 - i = (k : Int) by omega]; exact IntWalk.i64_in _ (by omega)
      have w3' : IntKind.i64.wrap (8 * (k : Int)) = 8 * (k : Int) := IntWalk.i64_in _ (by omega)
      have w4' : 0 ≤ 8 * (k : Int) := by omega
      have Hk := Lib.hid hk
      clear hk
      have hll : Li.length = (l.length + 1) + i := by rw [hLi.out]; simp; omega
      have Hll := Lib.hid hll
      clear hll
      go_region_law (refine step_append_by rfl (.tmp 29) (.tmp 38) rfl (v := .slice Ai Li.length ci) rfl (hpi.pen.own.alloc _) rfl (OwB.lit1 wr (base := 0) (b := (digs n).getD i 0) (bv_digit hn Hk.out) (by omega)).rd (by have := Hll.out; simp; omega) (by simp; omega) ?_; intro L3 A3 c3 w3 hL3 hown3 hg3 hat3; have hblk3 := (hpi.pen.alloc _).blk.drew.grown hg3 hpi.pen.ne; have hc3 : w3.cell? ⟨pb, 0, none⟩ = some (.slice Ai Li.length ci) := hblk3.cell 0; have hf3 : w3.frozen? ⟨pb, 0, none⟩ = false := hblk3.frozen 0)
      all_goals
        have hst3 := PenTo.stored hpi.pen ((Below.refl _ _).alloc (Nat.le_refl _) _).drew hown3 hg3 hat3
        go_wp2_with fail
        go_roundw
        case rel => exact ⟨i + 1, L3, A3, c3, hlt, by go_num, hpi.trans hst3, hid_take hLi.out hL3.out hlt⟩
        case measure => simp [intOf]; omega
    · have e : i = (digs n).length := by omega
      go_wp2_with fail
      go_end0
      subst e
      refine ⟨rfl, .slice Ai Li.length ci, ?_⟩
      have hL : Li = l ++ numB n := by rw [hLi.out, List.take_length]; simp [numB]
      rw [← hL]
      exact hpi
end Go.Proofs.YtjcfphdjgagimaaGreatDoor

/- grain.Pen: Num, Truth, Text, Bytes; bytes.Clone. -/
namespace Go.Proofs.YtjcfphdjgagimaaGreatDoor
open Go.RowKit

theorem flat_take {α : Type} {f : α → List UInt8} {L l : List UInt8} {ns : List α} {i : Nat} (hi : i < ns.length) (h : L = l ++ (ns.take i).flatMap f) : L ++ f ns[i] = l ++ (ns.take (i + 1)).flatMap f := by
  rw [h, List.take_succ_eq_append_getElem hi, List.flatMap_append, List.append_assoc]
  simp
theorem flat9 : ∀ (ns : List Nat), (ns.flatMap numB).length ≤ 9 * ns.length
  | [] => by simp
  | n :: ns => by
    have h1 := numB_len n
    have h2 := flat9 ns
    simp only [List.flatMap_cons, List.length_append, List.length_cons]
    omega
theorem flat9t (ns : List Nat) (i : Nat) : ((ns.take i).flatMap numB).length ≤ 9 * i := by
  have h := flat9 (ns.take i)
  have h2 := List.length_take_le i ns
  omega

set_option maxHeartbeats 400000 in
theorem Num_any (base pb : Nat) (v : Value) (l : List UInt8) (A : Option Addr) (c : Nat) (ns : List Nat) (Z : Nat → Prop) (w : World) (hp : Pen w base pb v l) (hr : Rd w Z 1 A ns.length (ns.map u64v))
    (hZ : ∀ b, b < w.heap.size → Z b → ¬ (b = pb ∨ v.ownBlock = some b)) (hn : ∀ n ∈ ns, n < 18446744073709551616) (hbase : base ≤ w.heap.size) (hlen : l.length + 9 * ns.length ≤ 140737488355328) :
    Calls Tryz.prog 22 #[.pointer (some ⟨pb, 0, none⟩), .slice A ns.length c] w fun e w' => e = .returned (.tuple #[]) ∧ ∃ v', PenTo w base pb v (l ++ ns.flatMap numB) w' v' := by
  go_enter Tryz.func22, Tryz.ntmps22
  go_wp2_with fail
  go_loopw [10] (fun iv wr => ∃ (i : Nat) (Li : List UInt8) (v' : Value), i ≤ ns.length ∧ iv = .int .i64 (i : Int) ∧ PenTo w base pb v Li wr v' ∧ Hid (Li = l ++ (ns.take i).flatMap numB)) (fun iv _ => ns.length - (intOf iv).toNat)
  case atStart => exact ⟨0, l, v, Nat.zero_le _, rfl, PenTo.refl hp, by show l = _; simp⟩
  case round =>
    obtain ⟨i, Li, v', hi, rfl, hpi, hLi⟩ := hrel
    have hsz := hpi.fr.size
    by_cases hlt : i < ns.length
    · obtain ⟨b, off, rfl, _, _, hc⟩ := (hr.fr hpi.fr hZ).atm hlt
      have hx := hn _ (List.getElem_mem hlt)
      have hll : Li.length ≤ l.length + 9 * i := by rw [hLi.out, List.length_append]; have := flat9t ns i; omega
      have hLn := flat_take hlt hLi.out
      have HLn := Lib.hid hLn
      clear hLn
      generalize ns[i] = x at hc hx HLn
      unfold u64v at hc
      go_wp2_with (go_at_call 58; refine (num_any base pb v' Li x _ hpi.pen (by omega) hx (by omega)).mono ?_; rintro e w1 ⟨rfl, v1, h1⟩)
      go_roundw
      case rel => exact ⟨i + 1, _, v1, hlt, by go_num, hpi.trans h1, HLn⟩
      case measure => simp [intOf]; omega
    · have e : i = ns.length := by omega
      go_wp2_with fail
      go_end0
      subst e
      refine ⟨rfl, v', ?_⟩
      have hL : Li = l ++ ns.flatMap numB := by rw [hLi.out, List.take_length]
      rw [← hL]
      exact hpi

set_option maxHeartbeats 400000 in
theorem Bytes_any (base pb : Nat) (v : Value) (l : List UInt8) (w : World) (hp : Pen w base pb v l) (hlen : l.length ≤ 140737488355328) :
    Calls Tryz.prog 25 #[.pointer (some ⟨pb, 0, none⟩)] w fun e w' => ∃ (A' : Option Addr) (c' : Nat) (l' : List UInt8), e = .returned (.slice A' l'.length c') ∧ Hid (l' = l) ∧ OwB w' w.heap.size (.slice A' l'.length c') l' ∧ Below w.heap.size w w' := by
  have hc := hp.cell
  obtain ⟨A, c, rfl, hlc, hcm, hA⟩ := hp.own.form
  go_enter Tryz.func25, Tryz.ntmps25
  go_wp2_with fail
  refine (clone_any A c l _ _ hp.own.rd hlen).mono ?_
  rintro e w1 ⟨A', c', l', rfl, hx, ho, hb⟩
  go_wp2_with fail
  go_ret
  exact ⟨A', c', l', rfl, hx, ho, hb⟩

end Go.Proofs.YtjcfphdjgagimaaGreatDoor

/- grain.Pen.Text, and pens that are none. -/
namespace Go.Proofs.YtjcfphdjgagimaaGreatDoor
open Go.RowKit

/-- bytes that texts take at most -/
def wide (bs : List BV) : Nat := (bs.map fun x => 9 + x.l.length).sum
theorem wide_take (bs : List BV) (i : Nat) (hi : i < bs.length) : (bs.take i |>.flatMap fun x => textB x.l).length + (9 + bs[i].l.length) ≤ wide bs := by
  have h1 : ∀ cs : List BV, (cs.flatMap fun x => textB x.l).length ≤ wide cs := by
    intro cs
    induction cs with
    | nil => simp [wide]
    | cons x cs ih =>
      have := numB_len x.l.length
      simp only [wide, List.flatMap_cons, List.length_append, List.map_cons, List.sum_cons, textB] at ih ⊢
      omega
  have h2 := h1 (bs.take i)
  have h3 : wide (bs.take i) + (9 + bs[i].l.length) ≤ wide bs := by
    have e : bs = bs.take i ++ bs[i] :: bs.drop (i + 1) := by simp
    have e2 : wide bs = wide (bs.take i ++ bs[i] :: bs.drop (i + 1)) := congrArg wide e
    rw [e2]
    simp only [wide, List.map_append, List.map_cons, List.sum_append, List.sum_cons]
    omega
  omega

theorem wide_len : ∀ bs : List BV, bs.length ≤ wide bs
  | [] => by simp
  | x :: bs => by
    have := wide_len bs
    simp only [wide, List.map_cons, List.sum_cons, List.length_cons] at this ⊢
    omega
theorem hid_text {L L1 n r : List UInt8} (h : L1 ++ n = r) (h' : L = L1 ++ n) : Hid (L = r) := by rw [h', h]; rfl

set_option maxHeartbeats 400000 in
theorem Text_any (base pb : Nat) (v : Value) (l : List UInt8) (A : Option Addr) (c : Nat) (bs : List BV) (Z : Nat → Prop) (w : World) (hp : Pen w base pb v l) (hr : Rd w Z 1 A bs.length (bs.map BV.v)) (hok : ∀ x ∈ bs, x.ok w Z)
    (hZ : ∀ b, b < w.heap.size → Z b → ¬ (b = pb ∨ v.ownBlock = some b)) (hbase : base ≤ w.heap.size) (hlen : l.length + wide bs ≤ 140737488355328) :
    Calls Tryz.prog 23 #[.pointer (some ⟨pb, 0, none⟩), .slice A bs.length c] w fun e w' => e = .returned (.tuple #[]) ∧ ∃ v', PenTo w base pb v (l ++ bs.flatMap fun x => textB x.l) w' v' := by
  have hbl := wide_len bs
  go_enter Tryz.func23, Tryz.ntmps23
  go_wp2_with fail
  go_loopw [10] (fun iv wr => ∃ (i : Nat) (Li : List UInt8) (v' : Value), i ≤ bs.length ∧ iv = .int .i64 (i : Int) ∧ PenTo w base pb v Li wr v' ∧ Hid (Li = l ++ (bs.take i).flatMap fun x => textB x.l)) (fun iv _ => bs.length - (intOf iv).toNat)
  case atStart => exact ⟨0, l, v, Nat.zero_le _, rfl, PenTo.refl hp, by show l = _; simp⟩
  case round =>
    obtain ⟨i, Li, v', hi, rfl, hpi, hLi⟩ := hrel
    have hsz := hpi.fr.size
    by_cases hlt : i < bs.length
    · obtain ⟨b, off, rfl, _, _, hc⟩ := (hr.fr hpi.fr hZ).atm hlt
      have hxok := (hok _ (List.getElem_mem hlt))
      have hw := wide_take bs i hlt
      have hll : Li.length = l.length + ((bs.take i).flatMap fun x => textB x.l).length := by rw [hLi.out, List.length_append]
      have hll2 : Li.length + (9 + bs[i].l.length) ≤ 140737488355328 := by omega
      have hLn := flat_take hlt hLi.out
      have HLn := Lib.hid hLn
      clear hLn hll hw
      generalize bs[i] = x at hc HLn hxok hll2
      obtain ⟨xA, xc, xl⟩ := x
      dsimp only at HLn hxok hll2
      replace hc : wr.cell? ⟨b, off + i, none⟩ = some (.slice xA xl.length xc) := hc
      go_wp2_with fail
      refine (num_any base pb v' Li xl.length _ hpi.pen (by omega) (by omega) (by omega)).mono ?_
      rintro e w1 ⟨rfl, v1, h1⟩
      have hL1 : (Li ++ numB xl.length).length ≤ Li.length + 9 := by have := numB_len xl.length; rw [List.length_append]; omega
      replace HLn : Hid ((Li ++ numB xl.length) ++ xl = l ++ (bs.take (i + 1)).flatMap fun x => textB x.l) := by
        show _ = _
        rw [List.append_assoc]
        exact HLn.out
      generalize Li ++ numB xl.length = L1 at h1 hL1 HLn
      have hp1 := hpi.trans h1
      obtain ⟨A1, c1, rfl, hlc1, hcm1, hA1⟩ := h1.pen.own.form
      have hc1 := h1.pen.cell
      have hx1 : By w1 Z xA xl := (hxok.fr hp1.fr hZ).by_
      go_wp2_with (at_builtin; refine wpList_append_by rfl (.tmp 23) (.tmp 24) rfl (v := .slice A1 L1.length c1) rfl h1.pen.own rfl hx1 (by omega) (by have := hp1.fr.size; omega) ?_; intro L2 A2 c2 w2 hL2 hown hg hat; have hst := PenTo.stored h1.pen (Below.refl _ _) hown hg hat; have hb2 := h1.pen.blk.grown hg h1.pen.ne; have hc2 : w2.cell? ⟨pb, 0, none⟩ = some (.slice A1 L1.length c1) := hb2.cell 0; have hf2 : w2.frozen? ⟨pb, 0, none⟩ = false := hb2.frozen 0)
      go_roundw
      case rel => exact ⟨i + 1, L2, _, hlt, by go_num, hp1.trans hst, hid_text HLn.out hL2.out⟩
      case measure => simp [intOf]; omega
    · have e : i = bs.length := by omega
      go_wp2_with fail
      go_end0
      subst e
      refine ⟨rfl, v', ?_⟩
      have hL : Li = l ++ bs.flatMap fun x => textB x.l := by rw [hLi.out, List.take_length]
      rw [← hL]
      exact hpi

end Go.Proofs.YtjcfphdjgagimaaGreatDoor

/- A new pen, what stays beside it; flat lists of cells. -/
namespace Go.Proofs.YtjcfphdjgagimaaGreatDoor
open Go.RowKit

theorem PenTo.low {a b : World} {base pb B : Nat} {v v' : Value} {l l' : List UInt8} (h : PenTo a base pb v l' b v') (ho : OwB a base v l) (hp : B ≤ pb) (hB : B ≤ base) (hs : B ≤ a.heap.size) : Below B a b :=
  h.fr.below hs (fun k hk => by
    rintro (rfl | e)
    · omega
    · have := (ho.lt _ e).1; omega)
theorem Pen.low {a b : World} {base pb B : Nat} {v v' : Value} {l l' : List UInt8} (h : Pen a base pb v l) (k : PenTo a base pb v l' b v') (hp : B ≤ pb) (hB : B ≤ base) (hs : B ≤ a.heap.size) : Below B a b := k.low h.own hp hB hs
/-- var p grain.Pen -/
theorem Pen.new (w : World) {base : Nat} : Pen (w.alloc (.cells #[.slice none 0 0] 55)) base w.heap.size (.slice none 0 0) [] := ⟨Blk.new _ _ _, OwB.nil _ _⟩

theorem box_keep {B pb : Nat} {a c : World} {vp vp' : Value} {Lp' : List UInt8} (k : PenTo a B pb vp Lp' c vp') {g : Nat} {t : TypeId} {cs : Array Value} (hb : Blk a g t cs) (h1 : g ≠ pb) (h2 : vp.ownBlock ≠ some g) : Blk c g t cs :=
  hb.fr k.fr (by rintro (e | e); exact h1 e; exact h2 e)

/-- new memory behind a pen's method -/
theorem PenTo.mem {a b c : World} {base pb : Nat} {v v' : Value} {l' : List UInt8} (h : PenTo a base pb v l' b v') (k : Below b.heap.size b c) : PenTo a base pb v l' c v' :=
  ⟨h.pen.below k, h.fr.then_below k, h.at_⟩
/-- a store into a new block beside a pen -/
theorem PenTo.side {a b c : World} {base pb bx : Nat} {v v' : Value} {l' : List UInt8} (h : PenTo a base pb v l' b v') (k : Fr (fun x => x = bx) b c) (hb : a.heap.size ≤ bx) (h1 : bx ≠ pb) (h2 : v'.ownBlock ≠ some bx) : PenTo a base pb v l' c v' :=
  ⟨⟨h.pen.blk.fr k (fun e => h1 e.symm), h.pen.own.fr k (fun g hg e => h2 (by rw [hg, e]))⟩, h.fr.trans k (fun x hx e => by omega), h.at_⟩
end Go.Proofs.YtjcfphdjgagimaaGreatDoor

/- leaf.Write. -/
namespace Go.Proofs.YtjcfphdjgagimaaGreatDoor
open Go.RowKit

/-- the cells of one leaf -/
theorem leaf_at {w : World} {Z : Nat → Prop} {A : Option Addr} {ls : List LV} {i : Nat} (h : Rd w Z 2 A ls.length (ls.flatMap LV.cells)) (hi : i < ls.length) :
    ∃ b off, A = some ⟨b, off, none⟩ ∧ Z b ∧ b < w.heap.size ∧ w.cell? ⟨b, off + i * 2, none⟩ = some (.int .i64 ls[i].k) ∧ w.cell? ⟨b, off + i * 2 + 1, none⟩ = some (.slice ls[i].x.A ls[i].x.l.length ls[i].x.c) := by
  obtain ⟨b, off, hA, hz, hb, hc⟩ := h.2 (by omega)
  have hg : ∀ j, j < 2 → (ls.flatMap LV.cells)[i * 2 + j]? = (LV.cells ls[i])[j]? := fun j hj => flat_get (k := 2) (fun _ => rfl) ls i j hi hj
  refine ⟨b, off, hA, hz, hb, ?_, ?_⟩
  · exact hc _ _ (hg 0 (by omega))
  · rw [Nat.add_assoc]; exact hc _ _ (hg 1 (by omega))

set_option maxHeartbeats 1000000 in
theorem leafWrite_any (base pb : Nat) (v : Value) (l : List UInt8) (A : Option Addr) (c : Nat) (ls : List LV) (Z : Nat → Prop) (w : World) (hp : Pen w base pb v l) (hr : Rd w Z 2 A ls.length (ls.flatMap LV.cells)) (hok : ∀ x ∈ ls, x.x.ok w Z)
    (hZ : ∀ b, b < w.heap.size → Z b → ¬ (b = pb ∨ v.ownBlock = some b)) (hbase : base ≤ w.heap.size) (hlen : l.length + wideL ls ≤ 140737488355328) :
    Calls Tryz.prog 24 #[.pointer (some ⟨pb, 0, none⟩), .slice A ls.length c] w fun e w' => e = .returned (.tuple #[]) ∧ ∃ v', PenTo w base pb v (l ++ ls.flatMap fun o => leafB o.k o.x.l) w' v' := by
  have hbl := wideL_len ls
  go_enter Tryz.func24, Tryz.ntmps24
  go_wp2_with fail
  go_loopw [8] (fun iv wr => ∃ (i : Nat) (Li : List UInt8) (v' : Value), i ≤ ls.length ∧ iv = .int .i64 (i : Int) ∧ PenTo w base pb v Li wr v' ∧ Hid (Li = l ++ (ls.take i).flatMap fun o => leafB o.k o.x.l)) (fun iv _ => ls.length - (intOf iv).toNat)
  case atStart => exact ⟨0, l, v, Nat.zero_le _, rfl, PenTo.refl hp, by show l = _; simp⟩
  case round =>
    obtain ⟨i, Li, v', hi, rfl, hpi, hLi⟩ := hrel
    have hsz := hpi.fr.size
    by_cases hlt : i < ls.length
    · obtain ⟨b, off, rfl, _, _, hc0, hc1⟩ := leaf_at (hr.fr hpi.fr hZ) hlt
      have hxok := hok _ (List.getElem_mem hlt)
      have hw := wideL_take ls i hlt
      have hll : Li.length + (18 + ls[i].x.l.length) ≤ 140737488355328 := by rw [hLi.out, List.length_append]; omega
      have hLn := flat_take (f := fun o : LV => leafB o.k o.x.l) hlt hLi.out
      have HLn := Lib.hid hLn
      clear hLn hw
      generalize ls[i] = x at hc0 hc1 HLn hxok hll
      obtain ⟨k, xA, xc, xl⟩ := x
      dsimp only at hc0 hc1 HLn hxok hll
      go_wp2_with fail
      refine (leafCheck_any k xA xl.length xc _ (by omega)).mono ?_
      rintro e w1 ⟨rfl, hb1⟩
      have hx1 : Blk w1 wr.heap.size 46 #[.int .i64 k, .slice xA xl.length xc] := (Blk.new wr 46 #[.int .i64 k, .slice xA xl.length xc]).below hb1
      have hlow1 : Below wr.heap.size wr w1 := ((Below.refl _ _).alloc (Nat.le_refl _) _).trans (hb1.mono (by simp))
      have hp1 : PenTo w base pb v Li w1 v' := hpi.mem hlow1
      have hn1 : wr.heap.size ≠ pb := by have := hpi.pen.blk.lt; omega
      have hn2 : v'.ownBlock ≠ some wr.heap.size := fun e => by have := (hpi.pen.own.lt _ e).2; omega
      have c0 := hx1.cell 0
      have c1 := hx1.cell 1
      have f0 := hx1.frozen 0
      have f1 := hx1.frozen 1
      clear hb1
      by_cases hck : checkN k xl.length = 0
      · obtain ⟨hk, hn0, _⟩ := checkN_ok hck
        have hs1 := hlow1.size
        have hs2 := hp1.fr.size
        generalize w1 = W at *
        by_cases hk1 : k = 1
        · rw [leafB_file hck hk1] at HLn
          rw [hck]
          subst hk1
          go_wp2_with fail
          refine (Num_any base pb v' Li _ _ [1] (fun b => W.heap.size ≤ b) _ (hp1.pen.alloc _) (Rd.lit rfl rfl (by simp)) ?_ ?_ ?_ ?_).mono ?_
          · rintro b' _ hb' (rfl | e)
            · have := hp1.pen.blk.lt; omega
            · have := (hp1.pen.own.lt _ e).2; omega
          · simp
          · simp; omega
          · simp; omega
          rintro e w3 ⟨rfl, v3, h3⟩
          have hp3 := hp1.trans (PenTo.after hp1.pen ((Below.refl _ _).alloc (Nat.le_refl _) _) h3)
          have hx3 := box_keep h3 (hx1.alloc _) hn1 hn2
          rw [List.flatMap_cons, List.flatMap_nil, List.append_nil] at hp3
          have e0 := hx3.cell 0
          have e1 := hx3.cell 1
          have hxs : BV.ok w3 (fun b => Z b ∧ b < w.heap.size) ⟨xA, xc, xl⟩ := (BV.ok.mono (Z' := fun b => Z b ∧ b < w.heap.size) hxok (fun b h1 h2 => ⟨h2, h1⟩)).fr hp3.fr (fun b _ h2 => hZ b h2.2 h2.1)
          have hn := numB_len 1
          have hs3 := hp3.fr.size
          have hat3 := hp3.at_
          go_wp2_with fail
          refine (Text_any base pb v3 (Li ++ numB 1) _ _ [⟨xA, xc, xl⟩] (fun b => (Z b ∧ b < w.heap.size) ∨ w3.heap.size ≤ b) _ (hp3.pen.alloc _) ((Rd.lit rfl rfl (by simp)).mono (fun b _ hb => .inr hb)) ?_ ?_ ?_ ?_).mono ?_
          · intro y hy
            obtain rfl := List.mem_singleton.1 hy
            exact BV.ok.mono (BV.ok.below (w := w3) hxs ((Below.refl _ _).alloc (Nat.le_refl _) _)) (fun b _ hb => .inl hb)
          · rintro b' _ hb' he
            rcases hb' with hb' | hb'
            · refine hZ b' hb'.2 hb'.1 ?_
              rcases he with he | he
              · exact .inl he
              · rcases hat3 with e | ⟨g, e, hg⟩
                · exact .inr (by rw [← e]; exact he)
                · rw [e] at he
                  injection he with he
                  omega
            · rcases he with he | he
              · have := hp3.pen.blk.lt; omega
              · have := (hp3.pen.own.lt _ he).2; omega
          · simp; omega
          · rw [List.length_append]; simp [wide]; omega
          rintro e w4 ⟨rfl, v4, h4⟩
          have hp4 := hp3.trans (PenTo.after hp3.pen ((Below.refl _ _).alloc (Nat.le_refl _) _) h4)
          rw [List.flatMap_cons, List.flatMap_nil, List.append_nil, List.append_assoc] at hp4
          go_wp2_with fail
          go_roundw
          case rel => exact ⟨i + 1, _, v4, hlt, by go_num, hp4, HLn⟩
          case measure => simp [intOf]; omega
        · rw [leafB_other hck hk1] at HLn
          have hk1b : (k == 1) = false := by simpa using hk1
          rw [hck]
          obtain ⟨n, rfl⟩ : ∃ n : Nat, k = n := ⟨k.toNat, by omega⟩
          rw [Int.toNat_natCast] at HLn
          have hnle : n ≤ 2 := by omega
          go_wp2_with fail
          refine (Num_any base pb v' Li _ _ [n] (fun b => W.heap.size ≤ b) _ (hp1.pen.alloc _) (Rd.lit rfl rfl (by simp)) ?_ ?_ ?_ ?_).mono ?_
          · rintro b' _ hb' (rfl | e)
            · have := hp1.pen.blk.lt; omega
            · have := (hp1.pen.own.lt _ e).2; omega
          · simp; omega
          · simp; omega
          · simp; omega
          rintro e w3 ⟨rfl, v3, h3⟩
          have hp3 := hp1.trans (PenTo.after hp1.pen ((Below.refl _ _).alloc (Nat.le_refl _) _) h3)
          have hx3 := box_keep h3 (hx1.alloc _) hn1 hn2
          rw [List.flatMap_cons, List.flatMap_nil, List.append_nil] at hp3
          have e0 := hx3.cell 0
          go_wp2_with fail
          go_roundw
          case rel => exact ⟨i + 1, _, v3, hlt, by go_num, hp3, HLn⟩
          case measure => simp [intOf]; omega
      · rw [leafB_bad hck] at HLn
        have hckb : (checkN k xl.length != 0) = true := by simpa using hck
        go_wp2_with fail
        obtain ⟨hx2, hf2⟩ := Blk.two (x' := .int .i64 0) (y' := .slice none 0 0) hx1
        have hp2 := hp1.side hf2 hsz hn1 hn2
        have hsz2 := hf2.size
        have hz2 : ((w1.setCell ⟨wr.heap.size, 0, none⟩ (.int .i64 0)).setCell ⟨wr.heap.size, 1, none⟩ (.slice none 0 0)).heap.size = w1.heap.size := by simp
        rw [← hz2]
        clear c0 c1 f0 f1 hx1 hf2
        generalize (w1.setCell ⟨wr.heap.size, 0, none⟩ (.int .i64 0)).setCell ⟨wr.heap.size, 1, none⟩ (.slice none 0 0) = W at *
        have hs1 := hlow1.size
        have hs2 := hp2.fr.size
        refine (Num_any base pb v' Li _ _ [0] (fun b => W.heap.size ≤ b) _ (hp2.pen.alloc _) (Rd.lit rfl rfl (by simp)) ?_ ?_ ?_ ?_).mono ?_
        · rintro b' _ hb' (rfl | e)
          · have := hp2.pen.blk.lt; omega
          · have := (hp2.pen.own.lt _ e).2; omega
        · simp
        · simp; omega
        · simp; omega
        rintro e w3 ⟨rfl, v3, h3⟩
        have hp3 := hp2.trans (PenTo.after hp2.pen ((Below.refl _ _).alloc (Nat.le_refl _) _) h3)
        have hx3 := box_keep h3 (hx2.alloc _) hn1 hn2
        rw [List.flatMap_cons, List.flatMap_nil, List.append_nil] at hp3
        have e0 := hx3.cell 0
        go_wp2_with fail
        go_roundw
        case rel => exact ⟨i + 1, _, v3, hlt, by go_num, hp3, HLn⟩
        case measure => simp [intOf]; omega
    · have e : i = ls.length := by omega
      go_wp2_with fail
      go_end0
      subst e
      refine ⟨rfl, v', ?_⟩
      have hL : Li = l ++ ls.flatMap fun o => leafB o.k o.x.l := by rw [hLi.out, List.take_length]
      rw [← hL]
      exact hpi
end Go.Proofs.YtjcfphdjgagimaaGreatDoor

/- Reading numbers, as a plain function. -/
namespace Go.Proofs.YtjcfphdjgagimaaGreatDoor
open Go.RowKit

/-- the number of bytes, highest first -/
def val (l : List UInt8) : Nat := l.foldl (fun n d => n * 256 + d.toNat) 0
/-- behind a failure -/
def failS (l : List UInt8) (f code : Int) : List UInt8 × Int := if f = 0 ∧ code ≠ 0 then ([], code) else (l, f)
/-- a number is read: the number, what is left, the fault -/
def readS (l : List UInt8) (f : Int) (most : Nat) : Nat × List UInt8 × Int :=
  if f ≠ 0 then (0, l, f)
  else match l with
    | [] => (0, [], 11)
    | c :: r =>
      if 8 < c.toNat then (0, [], 10)
      else if r.length < c.toNat then (0, [], 11)
      else if 0 < c.toNat ∧ r.getD 0 0 = 0 then (0, [], 10)
      else if most < val (r.take c.toNat) then (0, [], 13)
      else (val (r.take c.toNat), r.drop c.toNat, 0)

theorem val_snoc (l : List UInt8) (d : UInt8) : val (l ++ [d]) = val l * 256 + d.toNat := by unfold val; rw [List.foldl_append]; rfl
theorem val_aux : ∀ (l : List UInt8) (n : Nat), l.foldl (fun n d => n * 256 + d.toNat) n < (n + 1) * 256 ^ l.length
  | [], n => by simp
  | d :: l, n => by
    have h := val_aux l (n * 256 + d.toNat)
    have hd := d.toNat_lt
    rw [List.foldl_cons, List.length_cons, Nat.pow_succ]
    refine Nat.lt_of_lt_of_le h ?_
    rw [Nat.mul_comm (256 ^ l.length) 256, ← Nat.mul_assoc]
    exact Nat.mul_le_mul_right _ (by omega)
theorem val_lt (l : List UInt8) : val l < 256 ^ l.length := by simpa [val] using val_aux l 0
theorem val_lt64 {l : List UInt8} (h : l.length ≤ 8) : val l < 18446744073709551616 := Nat.lt_of_lt_of_le (val_lt l) (pow_le8 h)
theorem val_take {l : List UInt8} {i : Nat} (hi : i < l.length) : val (l.take (i + 1)) = val (l.take i) * 256 + (l.getD i 0).toNat := by
  rw [List.take_succ_eq_append_getElem hi, val_snoc, List.getD_eq_getElem?_getD, List.getElem?_eq_getElem hi]
  rfl
theorem or_byte {n : Nat} {d : UInt8} (h : n < 256 ^ 7) : bits .or .u64 ((n : Int) * 256) (d.toNat : Int) = ((n * 256 + d.toNat : Nat) : Int) := by
  have hd := d.toNat_lt
  rw [u64_or _ _ (by omega) (by omega) (by omega) (by omega)]
  have e : ((n : Int) * 256).toNat = n * 256 := by omega
  rw [e, Int.toNat_natCast, nat_join 8 (n * 256) d.toNat (by omega) (by omega)]
end Go.Proofs.YtjcfphdjgagimaaGreatDoor

/- grain.Eye: Fail, take. -/
namespace Go.Proofs.YtjcfphdjgagimaaGreatDoor
open Go.RowKit

/-- The eye at block eb (of struct type T) has the bytes l and the fault f; the bytes lie in Z. -/
def EyeAt (w : World) (T eb : Nat) (Z : Nat → Prop) (A : Option Addr) (c : Nat) (l : List UInt8) (f : Int) : Prop :=
  Blk w eb T #[.slice A l.length c, .int .i64 f] ∧ By w Z A l ∧ l.length ≤ c ∧ c ≤ maxLen
/-- what a method leaves: only the eye has turned -/
structure EyeTo (w : World) (T eb : Nat) (Z : Nat → Prop) (l : List UInt8) (f : Int) (w' : World) : Prop where
  at_ : ∃ A c, EyeAt w' T eb Z A c l f
  fr : Fr (fun k => k = eb) w w'

theorem EyeAt.c0 {w : World} {T eb : Nat} {Z : Nat → Prop} {A : Option Addr} {c : Nat} {l : List UInt8} {f : Int} (h : EyeAt w T eb Z A c l f) : w.cell? ⟨eb, 0, none⟩ = some (.slice A l.length c) := h.1.cell 0
theorem EyeAt.c1 {w : World} {T eb : Nat} {Z : Nat → Prop} {A : Option Addr} {c : Nat} {l : List UInt8} {f : Int} (h : EyeAt w T eb Z A c l f) : w.cell? ⟨eb, 1, none⟩ = some (.int .i64 f) := h.1.cell 1
theorem EyeAt.f0 {w : World} {T eb : Nat} {Z : Nat → Prop} {A : Option Addr} {c : Nat} {l : List UInt8} {f : Int} (h : EyeAt w T eb Z A c l f) : w.frozen? ⟨eb, 0, none⟩ = false := h.1.frozen 0
theorem EyeAt.f1 {w : World} {T eb : Nat} {Z : Nat → Prop} {A : Option Addr} {c : Nat} {l : List UInt8} {f : Int} (h : EyeAt w T eb Z A c l f) : w.frozen? ⟨eb, 1, none⟩ = false := h.1.frozen 1
theorem EyeAt.to {w : World} {T eb : Nat} {Z : Nat → Prop} {A : Option Addr} {c : Nat} {l : List UInt8} {f : Int} (h : EyeAt w T eb Z A c l f) : EyeTo w T eb Z l f w := ⟨⟨A, c, h⟩, Fr.refl _ _⟩
theorem EyeAt.below {w w' : World} {T eb : Nat} {Z : Nat → Prop} {A : Option Addr} {c : Nat} {l : List UInt8} {f : Int} (h : EyeAt w T eb Z A c l f) (k : Below w.heap.size w w') : EyeAt w' T eb Z A c l f := ⟨h.1.below k, h.2.1.below k, h.2.2⟩
theorem EyeAt.fr {w w' : World} {T eb : Nat} {Z S : Nat → Prop} {A : Option Addr} {c : Nat} {l : List UInt8} {f : Int} (h : EyeAt w T eb Z A c l f) (k : Fr S w w') (h1 : ¬ S eb) (h2 : ∀ b, b < w.heap.size → Z b → ¬ S b) : EyeAt w' T eb Z A c l f := ⟨h.1.fr k h1, h.2.1.fr k h2, h.2.2⟩
theorem EyeTo.trans {a b c : World} {T eb : Nat} {Z : Nat → Prop} {l l' : List UInt8} {f f' : Int} (h : EyeTo a T eb Z l f b) (k : EyeTo b T eb Z l' f' c) : EyeTo a T eb Z l' f' c := ⟨k.at_, h.fr.trans k.fr (fun _ _ h => h)⟩
theorem EyeTo.then_ {a b c : World} {T eb : Nat} {Z : Nat → Prop} {l : List UInt8} {f : Int} (h : EyeTo a T eb Z l f b) (k : Below b.heap.size b c) : EyeTo a T eb Z l f c := by
  obtain ⟨A, c', h1⟩ := h.at_
  exact ⟨⟨A, c', h1.below k⟩, h.fr.then_below k⟩
/-- both cells set anew -/
theorem EyeAt.failed {w : World} {T eb : Nat} {Z : Nat → Prop} {A : Option Addr} {c : Nat} {l : List UInt8} {f : Int} (h : EyeAt w T eb Z A c l f) (code : Int) :
    EyeTo w T eb Z [] code ((w.setCell ⟨eb, 0, none⟩ (.slice none 0 0)).setCell ⟨eb, 1, none⟩ (.int .i64 code)) ∧ EyeTo w T eb Z [] code ((w.setCell ⟨eb, 1, none⟩ (.int .i64 code)).setCell ⟨eb, 0, none⟩ (.slice none 0 0)) := by
  constructor
  · refine ⟨⟨none, 0, ?_, Rd.nil, by simp, by simp [maxLen]⟩, ((Fr.refl (fun k => k = eb) w).setAt eb _ rfl _).setAt eb _ rfl _⟩
    have := (h.1.set_ 0 (.slice none 0 0)).set_ 1 (.int .i64 code)
    simpa using this
  · refine ⟨⟨none, 0, ?_, Rd.nil, by simp, by simp [maxLen]⟩, ((Fr.refl (fun k => k = eb) w).setAt eb _ rfl _).setAt eb _ rfl _⟩
    have := (h.1.set_ 1 (.int .i64 code)).set_ 0 (.slice none 0 0)
    simpa using this

set_option maxHeartbeats 400000 in
theorem fail_any (eb : Nat) (Z : Nat → Prop) (A : Option Addr) (c : Nat) (l : List UInt8) (f code : Int) (w : World) (h : EyeAt w 107 eb Z A c l f) :
    Calls Tryz.prog 32 #[.pointer (some ⟨eb, 0, none⟩), .int .i64 code] w fun e w' => e = .returned (.tuple #[]) ∧ EyeTo w 107 eb Z (failS l f code).1 (failS l f code).2 w' := by
  have c0 := h.c0
  have c1 := h.c1
  have f0 := h.f0
  have f1 := h.f1
  by_cases h1 : f = 0
  · by_cases h2 : code = 0
    · have e1 := Lib.hid (show failS l f code = (l, f) by unfold failS; rw [if_neg (by omega)])
      subst h1 h2
      go_enter Tryz.func32, Tryz.ntmps32
      go_wp2_with fail
      go_end0
      rw [e1.out]
      exact ⟨rfl, h.to⟩
    · have e1 := Lib.hid (show failS l f code = ([], code) by unfold failS; rw [if_pos ⟨h1, h2⟩])
      have h2b : (code != 0) = true := by simpa using h2
      subst h1
      go_enter Tryz.func32, Tryz.ntmps32
      go_wp2_with fail
      go_end0
      rw [e1.out]
      exact ⟨rfl, (h.failed code).1⟩
  · have e1 := Lib.hid (show failS l f code = (l, f) by unfold failS; rw [if_neg (by omega)])
    have h1b : (f == 0) = false := by simpa using h1
    go_enter Tryz.func32, Tryz.ntmps32
    go_wp2_with fail
    go_end0
    rw [e1.out]
    exact ⟨rfl, h.to⟩

theorem EyeAt.bounds {w : World} {T eb : Nat} {Z : Nat → Prop} {A : Option Addr} {c : Nat} {l : List UInt8} {f : Int} (h : EyeAt w T eb Z A c l f) : l.length ≤ c ∧ c ≤ 9223372036854775807 := ⟨h.2.2.1, h.2.2.2⟩

theorem EyeAt.cut {w : World} {T eb : Nat} {Z : Nat → Prop} {A : Option Addr} {c : Nat} {l : List UInt8} {f : Int} (h : EyeAt w T eb Z A c l f) {n : Nat} (hn : n ≤ l.length) (hz : ¬ Z eb) :
    EyeTo w T eb Z (l.drop n) f (w.setCell ⟨eb, 0, none⟩ (.slice (if c = n then A else A.map fun x => x.add n) (l.length - n) (c - n))) := by
  have hf : Fr (fun k => k = eb) w (w.setCell ⟨eb, 0, none⟩ (.slice (if c = n then A else A.map fun x => x.add n) (l.length - n) (c - n))) := (Fr.refl (fun k => k = eb) w).setAt eb _ rfl _
  have hd := Rd.drop h.2.1 hn h.2.2.1
  rw [← List.map_drop, Nat.mul_one, ← List.length_drop] at hd
  refine ⟨⟨_, c - n, ?_, hd.fr hf (by rintro b _ hb rfl; exact hz hb), by rw [List.length_drop]; have := h.2.2.1; omega, by have := h.2.2.2; omega⟩, hf⟩
  have := h.1.set_ 0 (.slice (if c = n then A else A.map fun x => x.add n) (l.length - n) (c - n))
  rw [List.length_drop]
  simpa using this

set_option maxHeartbeats 400000 in
theorem take_in (eb : Nat) (Z : Nat → Prop) (A : Option Addr) (c : Nat) (l : List UInt8) (f : Int) (n : Nat) (w : World) (h : EyeAt w 107 eb Z A c l f) (hz : ¬ Z eb) (hn : n ≤ l.length) :
    Calls Tryz.prog 62 #[.pointer (some ⟨eb, 0, none⟩), .int .i64 n] w fun e w' => ∃ c', e = .returned (.slice A n c') ∧ n ≤ c' ∧ c' ≤ maxLen ∧ EyeTo w 107 eb Z (l.drop n) f w' := by
  have c0 := h.c0
  have f0 := h.f0
  have hb := h.bounds
  have hm : maxLen = 9223372036854775807 := rfl
  have HM := Lib.hid hm
  clear hm
  have H := Lib.hid h
  clear h
  by_cases hcn : c = n
  · subst hcn
    go_enter Tryz.func62, Tryz.ntmps62
    go_wp2_with fail
    go_ret
    have hc := H.out.cut hn hz
    rw [if_pos rfl, Nat.sub_self, show l.length - c = 0 by omega] at hc
    exact ⟨c, rfl, Nat.le_refl _, by rw [HM.out]; omega, hc⟩
  · go_enter Tryz.func62, Tryz.ntmps62
    go_wp2_with fail
    go_ret
    have hc := H.out.cut hn hz
    rw [if_neg hcn] at hc
    exact ⟨c, rfl, by omega, by rw [HM.out]; omega, hc⟩

set_option maxHeartbeats 400000 in
theorem take_out (eb : Nat) (Z : Nat → Prop) (A : Option Addr) (c : Nat) (l : List UInt8) (n : Nat) (w : World) (h : EyeAt w 107 eb Z A c l 0) (hn : l.length < n) :
    Calls Tryz.prog 62 #[.pointer (some ⟨eb, 0, none⟩), .int .i64 n] w fun e w' => e = .returned (.slice none 0 0) ∧ EyeTo w 107 eb Z [] 11 w' := by
  have c0 := h.c0
  go_enter Tryz.func62, Tryz.ntmps62
  go_wp2_with fail
  refine (fail_any eb Z A c l 0 11 w h).mono ?_
  rintro e w1 ⟨rfl, h1⟩
  go_wp2_with fail
  go_ret
  exact ⟨rfl, h1⟩
end Go.Proofs.YtjcfphdjgagimaaGreatDoor
