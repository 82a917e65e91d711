/- api.Item in slices: as an argument. -/
import Derived.Test.YtkeledbgmpienaaA08
import Derived.ChangeMaps5
import Derived.Lib.SlicesCompact
import Derived.Shelf.Small.Bits
import Derived.Sort.OwnSorted
import Derived.LoopTactic
import Derived.WalkMore
import Derived.ScopeJumps
import Derived.Deep.RegionHeld3

namespace Go.Proofs.Ytkeledbgmpienaa
open Go.RowKit Go.WideShapes Go.ChangeShapes Go.ChangeAt Go.ChangeMaps Go.Deep Go.Joins

/-- items as they come in -/
structure ItA (w : World) (A : Option Addr) (L : List (List UInt8 × LV)) : Prop where
  rd : Rd w (fun b => b < w.heap.size) 3 A L.length (L.flatMap itemC)
  ok : ∀ x ∈ L, x.2.okAt w (fun b => b < w.heap.size) ∧ x.1.length ≤ 140737488355328
  len : L.length ≤ 140737488355328
section
variable {H : Type} {enc : TypeId × Value → H} {w : World} {spare : Nat → Bool} {held : Bool}
/-- a struct of fields of any number of cells -/
theorem open_sti {t : TypeId} {fs : Array Field} {N : Nat} (hs : Try.prog.underlying t = some (.struct fs)) {n : Nat} {cs : List Value} {x : DataW H × List MemPlace} (h : DataW.trod enc Try.prog w 0 spare held n t cs = some x) (hC : Try.prog.cellsOf t = N) (hw : Within t x) :
    ∃ (ys : List (DataW H × List MemPlace)) (n' : Nat), cs.length = N ∧ ys.length = fs.size ∧
      ∀ (j : Nat) (f : Field) (y : DataW H × List MemPlace), fs[j]? = some f → ys[j]? = some y → DataW.trod enc Try.prog w 0 spare held n' f.type ((cs.drop f.offset).take (Try.prog.cellsOf f.type)) = some y ∧ Within f.type y := by
  obtain ⟨xs, n', _, hx, hl, hlen, hg⟩ := DataW.trod_struct hs h
  rw [hC] at hl
  refine ⟨xs, n', hl, hlen, fun j f y hj hy => ⟨by rw [hg j f hj, hy], fun k hk => hw k ?_⟩⟩
  rw [hx]
  simp only [DataW.weights, hs]
  refine DataW.weights_mem_each (j := j) (t := f.type) (d := y.1) ?_ ?_ k hk
  · rw [List.getElem?_map]
    have : fs.toList[j]? = some f := by simpa using hj
    rw [this]; rfl
  · rw [List.getElem?_map, hy]; rfl
theorem list3i {α : Type} {l : List α} (h : l.length = 3) : ∃ a0 a1 a2, l = [a0, a1, a2] := by
  match l, h with
  | [a0, a1, a2], _ => exact ⟨_, _, _, rfl⟩
theorem str_withini {b : List UInt8} {p : List MemPlace} (hw : Within 9 ((DataW.lit (Lit.string b) : DataW H), p)) : b.length ≤ 140737488355328 := by
  have h1 := hw b.length (by simp [DataW.weights])
  have h2 := reachBytes_lt
  omega
set_option maxRecDepth 100000 in
theorem open_item {n : Nat} {cs : List Value} {x : DataW H × List MemPlace} (h : DataW.trod enc Try.prog w 0 spare held n 56 cs = some x) (hw : Within 56 x) :
    ∃ o : List UInt8 × LV, cs = itemC o ∧ o.2.okAt w (fun b => b < w.heap.size) ∧ o.1.length ≤ 140737488355328 := by
  obtain ⟨ys, n', hcl, hyl, hf⟩ := open_sti (N := 3) Try.underlying56 h (by kernel_rfl) hw
  obtain ⟨a0, a1, a2, rfl⟩ := list3i hcl
  obtain ⟨y0, y1, rfl⟩ := list2 hyl
  obtain ⟨f0, w0⟩ := hf 0 _ _ rfl rfl
  obtain ⟨f1, w1⟩ := hf 1 _ _ rfl rfl
  have c0 : Try.prog.cellsOf 9 = 1 := by kernel_rfl
  have c1 : Try.prog.cellsOf 54 = 2 := by kernel_rfl
  replace f0 : DataW.trod enc Try.prog w 0 spare held n' 9 (([a0, a1, a2].drop 0).take (Try.prog.cellsOf 9)) = some y0 := f0
  replace f1 : DataW.trod enc Try.prog w 0 spare held n' 54 (([a0, a1, a2].drop 1).take (Try.prog.cellsOf 54)) = some y1 := f1
  rw [c0] at f0
  rw [c1] at f1
  obtain ⟨p, e, hx0, _⟩ := DataW.trod_string Try.underlying9 f0
  obtain ⟨o, e2, ho⟩ := open_leaf f1 w1
  obtain rfl : a0 = .string p := by simpa using e
  obtain ⟨k, xx⟩ := o
  obtain ⟨rfl, rfl⟩ : a1 = .int .i64 k ∧ a2 = .slice xx.A xx.l.length xx.c := by simpa [LV.cells] using e2
  rw [hx0] at w0
  exact ⟨(p.data.toList, ⟨k, xx⟩), rfl, ho, str_withini w0⟩
set_option maxRecDepth 100000 in
theorem open_items {n : Nat} {v : Value} {x : DataW H × List MemPlace} (h : DataW.trod enc Try.prog w 0 spare held n 31 [v] = some x) (hw : Within 31 x) :
    ∃ (A : Option Addr) (c : Nat) (l : List (List UInt8 × LV)), v = .slice A l.length c ∧ ItA w A l := by
  obtain ⟨A, c, l, rfl, _, _, h3, h4, h5⟩ := open_sl (w := w) (enc := enc) (spare := spare) (held := held) itemC (fun o => o.2.okAt w (fun b => b < w.heap.size) ∧ o.1.length ≤ 140737488355328) 3 48 (t := 31) (e := 56) Try.underlying31 (by kernel_rfl) (by kernel_rfl) (by omega) (fun n cs x hx hx2 => open_item hx hx2) h hw
  refine ⟨A, c, l, rfl, h3, h4, ?_⟩
  have := reachBytes_lt
  omega
end
end Go.Proofs.Ytkeledbgmpienaa

/- What trees keep while items are set, plainly; what a tree's writes leave. -/
namespace Go.Proofs.Ytkeledbgmpienaa
open Go.RowKit Go.Maps

theorem par_under {q : List UInt8} (h : (parT q).2 = true) : underB q (parT q).1 = true := by
  unfold parT at h ⊢
  split at h
  · rename_i hc
    rw [if_pos hc]
    simp only [Bool.and_eq_true, decide_eq_true_eq] at hc
    obtain ⟨hg, hl⟩ := hc
    have h1 : (cutL q).dropLast ≠ [] := by intro e; have := congrArg List.length e; rw [List.length_dropLast] at this; simp at this; omega
    have h2 := cut_paste (cutL q).dropLast h1 (fun y hy => cut_no q y ((List.dropLast_sublist _).subset hy))
    have hne : cutL q ≠ [] := fun e => by rw [e] at hl; simp at hl
    have h3 : preB q (pasteL (cutL q).dropLast) = true := (preB_iff _ _).2 ⟨[(cutL q).getLast hne], by simp, by rw [h2, List.dropLast_concat_getLast hne]⟩
    show underB q (pasteL (cutL q).dropLast) = true
    unfold underB
    rw [hg, good_pre hg h3, h3]; rfl
  · simp at h
theorem under_irr (p : List UInt8) : underB p p = false := by
  rcases h : underB p p with _ | _
  · rfl
  · have := (under_order (b := p) h).1
    rw [cmpT_self] at this
    omega
/-- above each path that has a leaf stands a Dir -/
def DirsOk (T : List (List UInt8 × LP)) : Prop := ∀ x ∈ T, (parT x.1).2 = true → kindL (getR T (parT x.1).1) = 2
theorem DirsOk.nil : DirsOk [] := by simp [DirsOk]
theorem DirsOk.set {T : List (List UInt8 × LP)} (h : DirsOk T) (p : List UInt8) (l : LP) : DirsOk (setS T p l) := by
  unfold setS
  split
  · rename_i hm
    unfold mayS at hm
    split at hm
    · simp at hm
    · split at hm
      · rename_i hc; exact absurd hm hc
      · split at hm
        · simp at hm
        · rename_i hb
          have hbe : l.1 ≠ 2 → ∀ x ∈ T, underB x.1 p = false := fun h2 x hx => by
            rcases hu : underB x.1 p with _ | _
            · rfl
            · refine absurd ⟨h2, ?_⟩ hb
              intro e
              have : x.1 ∈ (keysR T).filter fun q => underB q p := List.mem_filter.2 ⟨List.mem_map.2 ⟨x, hx, rfl⟩, hu⟩
              rw [e] at this
              cases this
          unfold doS
          split
          · rename_i h0
            intro x hx hp
            have hxT := (List.mem_filter.1 hx).1
            have h1 := h x hxT hp
            rw [getR_without, if_neg]
            · exact h1
            · intro e
              have h2 := par_under hp
              rw [e, hbe (by omega) x hxT] at h2
              cases h2
          · rename_i h0
            rw [if_neg h0] at hm
            split at hm
            · simp at hm
            · rename_i hk
              intro x hx hp
              unfold putR at hx
              rcases mem_ins.1 hx with rfl | hx
              · dsimp only at hp ⊢
                have h1 : kindL (getR T (parT p).1) = 2 := by
                  by_cases e : kindL (getR T (parT p).1) = 2
                  · exact e
                  · exact absurd ⟨hp, e⟩ hk
                rw [getR_put, if_neg]
                · exact h1
                · intro e
                  have h2 := par_under hp
                  rw [e, under_irr] at h2
                  cases h2
              · have hxT := (List.mem_filter.1 hx).1
                have h1 := h x hxT hp
                rw [getR_put]
                split
                · rename_i e
                  by_cases h2 : l.1 = 2
                  · show l.1 = 2
                    exact h2
                  · have h3 := par_under hp
                    rw [e, hbe h2 x hxT] at h3
                    cases h3
                · exact h1
  · exact h
/-- one item behind the other set -/
def playS (T : List (List UInt8 × LP)) (l : List (List UInt8 × LP)) : List (List UInt8 × LP) := l.foldl (fun T x => setS T x.1 x.2) T
theorem play_snoc (T l : List (List UInt8 × LP)) (x : List UInt8 × LP) : playS T (l ++ [x]) = setS (playS T l) x.1 x.2 := by simp [playS]
theorem play_ok (T l : List (List UInt8 × LP)) (h : TreeOk T) : TreeOk (playS T l) := by
  induction l generalizing T with
  | nil => exact h
  | cons x l ih => exact ih _ (h.set x.1 x.2)
theorem play_dirs (T l : List (List UInt8 × LP)) (h : DirsOk T) : DirsOk (playS T l) := by
  induction l generalizing T with
  | nil => exact h
  | cons x l ih => exact ih _ (h.set x.1 x.2)
/-- the reference's step, plainly -/
theorem plain_step (L : List (List UInt8 × LV)) (p : List UInt8) (v : LV) : plainL (if mayS (plainL L) p v.p = 0 then putI L p v else L) = setS (plainL L) p v.p := by
  unfold setS
  split
  · unfold putI doS
    show plainL (if v.k = 0 then _ else _) = if v.k = 0 then _ else _
    split
    · exact plain_without L p
    · exact plain_put L p v
  · rfl

/-- what is read at cells that are no maps does not lie in the tree's own blocks -/
theorem TreeAt.apart {w : World} {tb : Nat} {mo : Option Nat} {K : List (List UInt8 × LV)} (t : TreeAt w tb mo K) {Z : Nat → Prop} {size n : Nat} {A : Option Addr} {xs : List Value} (h : Rd w Z size A n xs) (hx : ∀ u ∈ xs, ∀ m, u ≠ .map m) : Rd w (fun b => Z b ∧ b ≠ tb ∧ mo ≠ some b) size A n xs := by
  refine ⟨h.1, fun hn => ?_⟩
  obtain ⟨b, off, e, hz, hlt, hc⟩ := h.2 hn
  refine ⟨b, off, e, ?_, hlt, hc⟩
  have h0 : 0 < xs.length := by rw [h.1]; exact hn
  have hc0 := hc 0 _ (List.getElem?_eq_getElem h0)
  have hne := hx _ (List.getElem_mem h0)
  refine ⟨hz, fun eb => ?_, fun em => ?_⟩
  · subst eb
    rw [t.blk.cell] at hc0
    rcases Nat.eq_zero_or_pos (off + 0) with h1 | h1
    · rw [h1] at hc0
      simp at hc0
      exact hne _ hc0.symm
    · rw [Array.getElem?_eq_none (by simp; omega)] at hc0; cases hc0
  · rcases t.map with ⟨e0, _⟩ | ⟨mb, e0, hm⟩
    · rw [e0] at em; cases em
    · rw [e0] at em
      injection em with em
      subst em
      obtain ⟨D, ⟨es, clock, h1, _⟩, _⟩ := hm.own
      simp [World.cell?, h1] at hc0
theorem bv_no_map (l : List UInt8) : ∀ u ∈ l.map bv, ∀ m, u ≠ .map m := by
  intro u hu m e
  obtain ⟨x, _, rfl⟩ := List.mem_map.1 hu
  simp [bv] at e
theorem item_no_map (L : List (List UInt8 × LV)) : ∀ u ∈ L.flatMap itemC, ∀ m, u ≠ .map m := by
  intro u hu m e
  obtain ⟨x, _, hx⟩ := List.mem_flatMap.1 hu
  subst e
  simp [itemC, stv] at hx
/-- rows of items stay, whatever is set on a tree -/
theorem Its.set {w w' : World} {A : Option Addr} {L K : List (List UInt8 × LV)} {tb : Nat} {mo : Option Nat} (h : Its w A L) (t : TreeAt w tb mo K) (k : Fr (fun g => g = tb ∨ mo = some g) w w') : Its w' A L := by
  refine ⟨((t.apart h.rd (item_no_map L)).fr k fun b _ hz e => ?_).mono (fun _ _ _ => trivial), fun x hx => ?_, h.len, h.txt⟩
  · exact e.elim hz.2.1 hz.2.2
  · have h1 := h.ok x hx
    exact ⟨((t.apart h1.1 (bv_no_map _)).fr k fun b _ hz e => e.elim hz.2.1 hz.2.2).mono (fun _ _ _ => trivial), h1.2⟩
theorem ItA.fr {w w' : World} {A : Option Addr} {L : List (List UInt8 × LV)} {S : Nat → Prop} (h : ItA w A L) (k : Fr S w w') (hS : ∀ b, b < w.heap.size → ¬ S b) : ItA w' A L := by
  refine ⟨(h.rd.fr k fun b hb _ => hS b hb).mono (fun b hb _ => hb), fun x hx => ?_, h.len⟩
  have h1 := h.ok x hx
  exact ⟨⟨(h1.1.x.fr k fun b hb _ => hS b hb).mono (fun b hb _ => hb), h1.1.len, h1.1.k⟩, h1.2⟩
theorem ItA.below {w w' : World} {A : Option Addr} {L : List (List UInt8 × LV)} (h : ItA w A L) (k : Below w.heap.size w w') : ItA w' A L := h.fr (Fr.of_below k (fun _ => False)) (fun _ _ h => h)
theorem ItA.at_ {w : World} {A : Option Addr} {L : List (List UInt8 × LV)} {i : Nat} (h : ItA w A L) (hi : i < L.length) :
    ∃ b off, A = some ⟨b, off, none⟩ ∧ b < w.heap.size ∧ w.cell? ⟨b, off + i * 3, none⟩ = some (stv L[i].1) ∧ w.cell? ⟨b, off + i * 3 + 1, none⟩ = some (.int .i64 L[i].2.k) ∧ w.cell? ⟨b, off + i * 3 + 2, none⟩ = some (.slice L[i].2.x.A L[i].2.x.l.length L[i].2.x.c) := by
  obtain ⟨b, off, hA, _, hb, hc⟩ := h.rd.2 (by omega)
  have hg : ∀ j, j < 3 → (L.flatMap itemC)[i * 3 + j]? = (itemC L[i])[j]? := fun j hj => flat_get (k := 3) item_len L i j hi hj
  refine ⟨b, off, hA, hb, hc _ _ (hg 0 (by omega)), ?_, ?_⟩
  · rw [Nat.add_assoc]; exact hc _ _ (hg 1 (by omega))
  · rw [Nat.add_assoc]; exact hc _ _ (hg 2 (by omega))
theorem item_at {w : World} {Z : Nat → Prop} {A : Option Addr} {L : List (List UInt8 × LV)} {i : Nat} (h : Rd w Z 3 A L.length (L.flatMap itemC)) (hi : i < L.length) :
    ∃ b off, A = some ⟨b, off, none⟩ ∧ b < w.heap.size ∧ w.cell? ⟨b, off + i * 3, none⟩ = some (stv L[i].1) ∧ w.cell? ⟨b, off + i * 3 + 1, none⟩ = some (.int .i64 L[i].2.k) ∧ w.cell? ⟨b, off + i * 3 + 2, none⟩ = some (.slice L[i].2.x.A L[i].2.x.l.length L[i].2.x.c) := by
  obtain ⟨b, off, hA, _, hb, hc⟩ := h.2 (by omega)
  have hg : ∀ j, j < 3 → (L.flatMap itemC)[i * 3 + j]? = (itemC L[i])[j]? := fun j hj => flat_get (k := 3) item_len L i j hi hj
  refine ⟨b, off, hA, hb, hc _ _ (hg 0 (by omega)), ?_, ?_⟩
  · rw [Nat.add_assoc]; exact hc _ _ (hg 1 (by omega))
  · rw [Nat.add_assoc]; exact hc _ _ (hg 2 (by omega))
end Go.Proofs.Ytkeledbgmpienaa

/- tree.New. -/
namespace Go.Proofs.Ytkeledbgmpienaa
open Go.RowKit Go.Maps

theorem treeNew_nil (w : World) :
    Calls Try.prog 28 #[.slice none 0 0] w fun e w' => e = .returned (.tuple #[.pointer (some ⟨w.heap.size, 0, none⟩), .int .i64 0]) ∧ TreeAt w' w.heap.size none [] ∧ Below w.heap.size w w' := by
  go_enter Try.func28, Try.ntmps28
  go_wp2_with fail
  go_loopw [12] (fun iv wr => iv = .int .i64 0 ∧ wr = w.alloc (.cells #[.map none] 74)) (fun _ _ => 0)
  case atStart => exact ⟨rfl, rfl⟩
  case round =>
    obtain ⟨rfl, rfl⟩ := hrel
    go_wp2_with fail
    go_ret2
    exact ⟨rfl, TreeAt.new _, (by repeat (first | exact Below.refl _ _ | refine Below.alloc ?_ (by simp) _ | refine Below.setCell ?_ (by simp) _ | refine Below.drew ?_))⟩
end Go.Proofs.Ytkeledbgmpienaa

/- tenderlaw08: lives, Light. -/
namespace Go.Proofs.Ytkeledbgmpienaa
open Go.RowKit Go.Maps

/-- are there few items, and small ones? -/
def bytesI (L : List (List UInt8 × LV)) : Nat := (L.map fun x => x.2.x.l.length).sum
def lightI (L : List (List UInt8 × LV)) : Bool := L.all (fun x => decide (x.1.length ≤ 200)) && (decide (L.length ≤ 200) && decide (bytesI L ≤ 20000))
theorem bytesI_take (L : List (List UInt8 × LV)) (i : Nat) (hi : i < L.length) : bytesI (L.take (i + 1)) = bytesI (L.take i) + L[i].2.x.l.length := by
  unfold bytesI
  rw [List.take_succ_eq_append_getElem hi, List.map_append, List.sum_append]
  simp
theorem bytesI_le (K : Nat) : ∀ (L : List (List UInt8 × LV)), (∀ o ∈ L, o.2.x.l.length ≤ K) → bytesI L ≤ L.length * K
  | [], _ => by simp [bytesI]
  | o :: l, h => by
    have h1 := h o (by simp)
    have h2 := bytesI_le K l (fun o ho => h o (by simp [ho]))
    simp only [bytesI, List.map_cons, List.sum_cons, List.length_cons, Nat.add_mul] at h2 ⊢
    omega
theorem bytesI_take_le (K : Nat) (l : List (List UInt8 × LV)) (i : Nat) (h : ∀ o ∈ l, o.2.x.l.length ≤ K) : bytesI (l.take i) ≤ i * K := by
  have h1 := bytesI_le K (l.take i) (fun o ho => h o (List.mem_of_mem_take ho))
  have h2 : (l.take i).length ≤ i := List.length_take_le _ _
  have h3 : (l.take i).length * K ≤ i * K := Nat.mul_le_mul_right _ h2
  omega
/-- the sum that Light has made: right while few have been seen -/
def SeenI (l : List (List UInt8 × LV)) (i : Nat) (s : Int) : Prop := i ≤ 400 → s = (bytesI (l.take i) : Int)
theorem seenI_step {l : List (List UInt8 × LV)} {i : Nat} {s : Int} (hs : SeenI l i s) (hi : i < l.length) (h : ∀ o ∈ l, o.2.x.l.length ≤ 140737488355328) : SeenI l (i + 1) (wrap64 (s + (l[i].2.x.l.length : Int))) := by
  intro hi2
  have e := hs (by omega)
  have h1 := bytesI_take_le 140737488355328 l (i + 1) h
  have h2 := bytesI_take l i hi
  have h3 : (i + 1) * 140737488355328 ≤ 401 * 140737488355328 := Nat.mul_le_mul_right _ (by omega)
  rw [h2] at h1 ⊢
  rw [e, IntWalk.wrap64_in _ ⟨by omega, by omega⟩]
  omega
theorem le_sum : ∀ (l : List Nat) (n : Nat), n ∈ l → n ≤ l.sum
  | [], _, h => by cases h
  | m :: l, n, h => by
    rw [List.sum_cons]
    rcases List.mem_cons.1 h with rfl | h
    · omega
    · have := le_sum l n h
      omega
theorem lightI_len {L : List (List UInt8 × LV)} (h : lightI L = true) : L.length ≤ 200 ∧ ∀ x ∈ L, x.1.length ≤ 200 ∧ x.2.x.l.length ≤ 20000 := by
  unfold lightI at h
  simp only [Bool.and_eq_true, decide_eq_true_eq, List.all_eq_true] at h
  refine ⟨h.2.1, fun x hx => ⟨h.1 x hx, ?_⟩⟩
  have h1 : x.2.x.l.length ≤ bytesI L := by
    unfold bytesI
    exact le_sum _ _ (List.mem_map.2 ⟨x, hx, rfl⟩)
  omega
set_option maxRecDepth 100000 in
set_option maxHeartbeats 400000 in
theorem lightI_any (A : Option Addr) (c : Nat) (l : List (List UInt8 × LV)) (w : World) (h : ItA w A l) :
    Calls Try.prog 12 #[.slice A l.length c] w fun e w' => e = .returned (.bool (lightI l)) ∧ Below w.heap.size w w' := by
  have hlen := h.len
  go_enter Try.func12, Try.ntmps12
  go_wp2_with fail
  go_loopw [3, 8] (fun sv iv wr => ∃ (i : Nat) (s : Int), i ≤ l.length ∧ iv = .int .i64 (i : Int) ∧ sv = .int .i64 s ∧ SeenI l i s ∧ (∀ x ∈ l.take i, x.1.length ≤ 200) ∧ Below w.heap.size w wr) (fun _ iv _ => l.length - (intOf iv).toNat)
  case atStart => exact ⟨0, 0, Nat.zero_le _, rfl, rfl, by intro _; simp [bytesI], by simp, Below.refl _ _⟩
  case round =>
    obtain ⟨i, s, hi, rfl, rfl, hs, hp, hb⟩ := hrel
    by_cases hlt : i < l.length
    · obtain ⟨b, off, rfl, hbb, hc0, hc1, hc2⟩ := (h.below hb).at_ hlt
      have hsz := hb.size
      have hok := h.ok _ (List.getElem_mem hlt)
      have hxl := hok.1.len
      have hpl := hok.2
      have hst := Lib.hid (seenI_step hs hlt (fun o ho => (h.ok o ho).1.len))
      have hmem := List.getElem_mem hlt
      have hp2 : l[i].1.length ≤ 200 → Hid (∀ x ∈ l.take (i + 1), x.1.length ≤ 200) := fun h2 => Lib.hid (by
        rw [List.take_succ_eq_append_getElem hlt]
        intro x hx
        rcases List.mem_append.1 hx with hx | hx
        · exact hp x hx
        · rw [List.mem_singleton.1 hx]; exact h2)
      have hno : ¬ l[i].1.length ≤ 200 → Hid (lightI l = false) := fun h2 => Lib.hid (by
        unfold lightI
        rw [Bool.and_eq_false_iff]
        refine .inl ?_
        rw [List.all_eq_false]
        exact ⟨_, hmem, by simpa using h2⟩)
      clear hok hmem hp
      generalize l[i] = o at *
      obtain ⟨p, k, xA, xc, xl⟩ := o
      simp only [stv] at *
      by_cases h2 : p.length ≤ 200
      · have hp3 := hp2 h2
        clear hp2 hno
        go_wp2_with fail
        go_roundw
        case rel => exact ⟨i + 1, _, hlt, by go_num, rfl, by have := hst.out; push_cast at this; exact this, hp3.out, (hb.alloc hsz _)⟩
        case measure => simp [intOf]; omega
      · have hn := hno h2
        clear hp2 hno
        go_wp2_with fail
        go_ret
        exact ⟨ret_b hn.out.symm, hb.alloc hsz _⟩
    · have e : i = l.length := by omega
      subst e
      rw [List.take_length] at hp
      have hall : l.all (fun x => decide (x.1.length ≤ 200)) = true := by simpa using hp
      have hli : Hid (lightI l = (decide (l.length ≤ 200) && decide (bytesI l ≤ 20000))) := Lib.hid (by unfold lightI; rw [hall]; simp)
      by_cases h2 : l.length ≤ 200
      · have hss := hs (by omega)
        rw [List.take_length] at hss
        subst hss
        clear hp hall
        go_wp2
        all_goals
          go_ret
          exact ⟨ret_b (by rw [hli.out, Bool.eq_iff_iff]; simp; omega), hb⟩
      · clear hp hall
        go_wp2
        all_goals
          go_ret
          exact ⟨ret_b (by rw [hli.out, Bool.eq_iff_iff]; simp; omega), hb⟩
end Go.Proofs.Ytkeledbgmpienaa

/- tree.Diff, Same. -/
namespace Go.Proofs.Ytkeledbgmpienaa
open Go.RowKit

/-- a tree, or none -/
def TreeP (w : World) (v : Option Addr) (L : List (List UInt8 × LV)) : Prop := (v = none ∧ L = []) ∨ ∃ tb mo, v = some ⟨tb, 0, none⟩ ∧ TreeAt w tb mo L
theorem TreeP.below {w w' : World} {v : Option Addr} {L : List (List UInt8 × LV)} (h : TreeP w v L) (k : Below w.heap.size w w') : TreeP w' v L := h.imp id fun ⟨tb, mo, e, ht⟩ => ⟨tb, mo, e, ht.below k⟩
theorem TreeP.ok {w : World} {v : Option Addr} {L : List (List UInt8 × LV)} (h : TreeP w v L) : TreeOk (plainL L) := by
  rcases h with ⟨_, rfl⟩ | ⟨tb, mo, _, ht⟩
  · exact TreeOk.nil
  · exact ht.plain
theorem treeget_nil (p : List UInt8) (w : World) : Calls Try.prog 50 #[.pointer none, .string ⟨⟨p⟩⟩] w fun e w' => e = .returned (leafO none) ∧ Below w.heap.size w w' := by
  unfold leafO
  go_enter Try.func50, Try.ntmps50
  go_wp2_with fail
  refine bodyPost_ret (v := .agg #[.int .i64 0, .slice none 0 0]) (by simp [results, Try.results50, go_sem]) rfl ?_
  exact ⟨rfl, (by repeat (first | exact Below.refl _ _ | refine Below.alloc ?_ (by simp) _ | refine Below.setCell ?_ (by simp) _ | refine Below.drew ?_))⟩
theorem treegetP_any (v : Option Addr) (L : List (List UInt8 × LV)) (p : List UInt8) (w : World) (h : TreeP w v L) (hp : p.length ≤ 140737488355328) :
    Calls Try.prog 50 #[.pointer v, .string ⟨⟨p⟩⟩] w fun e w' => e = .returned (leafO (getR L p)) ∧ Below w.heap.size w w' := by
  rcases h with ⟨rfl, rfl⟩ | ⟨tb, mo, rfl, ht⟩
  · exact treeget_nil p w
  · exact treeget_any tb mo L p w ht hp
theorem leafO_byT {w : World} {v : Option Addr} {L : List (List UInt8 × LV)} (h : TreeP w v L) (p : List UInt8) : ∃ (k : Int) (A' : Option Addr) (c : Nat) (l : List UInt8), leafO (getR L p) = .agg #[.int .i64 k, .slice A' l.length c] ∧ By w (fun _ => True) A' l ∧ Hid (at0 (plainL L) p = (k, l)) := by
  unfold at0
  rw [get_plain]
  rcases h with ⟨rfl, rfl⟩ | ⟨tb, mo, rfl, ht⟩
  · exact ⟨0, none, 0, [], rfl, Rd.nil, rfl⟩
  · rcases hg : getR L p with _ | ⟨k, A', c, l⟩
    · exact ⟨0, none, 0, [], rfl, Rd.nil, rfl⟩
    · exact ⟨k, A', c, l, rfl, (ht.ok _ (getR_mem hg)).1.mono (fun _ _ _ => trivial), rfl⟩
end Go.Proofs.Ytkeledbgmpienaa

/- What slices.Compact makes of a sorted row of texts: plain. -/
namespace Go.Proofs.Ytkeledbgmpienaa
open Go.RowKit Go.Lib

theorem compact_spec (zs : List (List UInt8)) (hs : zs.Pairwise fun a b => leT a b = true) : ∀ m, m ≤ zs.length →
    (∀ x, x ∈ compactUpTo zs.toArray m ↔ x ∈ zs.take m) ∧ (compactUpTo zs.toArray m).Pairwise fun a b => leT a b = true ∧ a ≠ b
  | 0, _ => ⟨by simp [compactUpTo], by simp [compactUpTo]⟩
  | m + 1, hm => by
    obtain ⟨h1, h2⟩ := compact_spec zs hs m (by omega)
    rw [compactUpTo_succ]
    have hlt : m < zs.length := by omega
    have ht : zs.take (m + 1) = zs.take m ++ [zs[m]] := List.take_succ_eq_append_getElem hlt
    have hg : zs.toArray[m]! = zs[m] := by simp [hlt]
    have hle : ∀ x ∈ zs.take m, leT x zs[m] = true := by
      intro x hx
      have hp : (zs.take (m + 1)).Pairwise fun a b => leT a b = true := hs.sublist (List.take_sublist _ _)
      rw [ht] at hp
      exact (List.pairwise_append.1 hp).2.2 x hx _ (by simp)
    rw [hg]
    by_cases hk : keeps zs.toArray m = true
    · rw [if_pos hk]
      have hne : ∀ x ∈ zs.take m, x ≠ zs[m] := by
        intro x hx e
        have hm0 : 0 < m := by
          rcases Nat.eq_zero_or_pos m with rfl | h
          · simp at hx
          · exact h
        have hg1 : zs.toArray[m - 1]! = zs[m - 1] := by simp [show m - 1 < zs.length by omega]
        unfold keeps at hk
        rw [hg, hg1] at hk
        simp only [decide_eq_true_eq] at hk
        rcases hk with hk | hk
        · omega
        · obtain ⟨i, hi, rfl⟩ := List.getElem_of_mem hx
          rw [List.length_take] at hi
          rw [List.getElem_take] at e
          have e1 : leT zs[i] zs[m - 1] = true := by
            by_cases hi2 : i = m - 1
            · subst hi2
              have := leT_total zs[m - 1] zs[m - 1]
              simpa using this
            · exact List.pairwise_iff_getElem.1 hs i (m - 1) (by omega) (by omega) (by omega)
          have e2 : leT zs[m - 1] zs[m] = true := List.pairwise_iff_getElem.1 hs (m - 1) m (by omega) (by omega) (by omega)
          rw [e] at e1
          exact hk (leT_anti _ _ e1 e2)
      refine ⟨fun x => ?_, ?_⟩
      · rw [ht, List.mem_append, List.mem_append, h1]
      · rw [List.pairwise_append]
        refine ⟨h2, by simp, fun a ha b hb => ?_⟩
        rw [List.mem_singleton.1 hb]
        have ha' := (h1 a).1 ha
        exact ⟨hle a ha', hne a ha'⟩
    · rw [if_neg hk, List.append_nil]
      refine ⟨fun x => ?_, h2⟩
      rw [ht, List.mem_append, h1]
      refine ⟨.inl, fun h => h.elim id fun h => ?_⟩
      rw [List.mem_singleton.1 h]
      unfold keeps at hk
      simp only [decide_eq_true_eq, not_or, Classical.not_not] at hk
      have hg1 : zs.toArray[m - 1]! = zs[m - 1] := by simp [show m - 1 < zs.length by omega]
      rw [hg, hg1] at hk
      rw [hk.2]
      have : zs[m - 1] = (zs.take m)[m - 1]'(by rw [List.length_take]; omega) := by rw [List.getElem_take]
      rw [this]
      exact List.getElem_mem _
/-- two rows of paths, sorted, each once: the paths of both -/
theorem compact_union (ss ts : List (List UInt8)) {α : Type} {U : List (List UInt8 × α)} (hU : SortR U) (f : List UInt8 → Bool) (hm : ∀ k, k ∈ ss ++ ts ↔ (k ∈ keysR U ∧ f k = true)) : compact ((ss ++ ts).mergeSort leT) = (keysR U).filter f := by
  have hso : ((ss ++ ts).mergeSort leT).Pairwise fun a b => leT a b = true := List.pairwise_mergeSort leT_trans leT_total _
  obtain ⟨h1, h2⟩ := compact_spec _ hso _ (Nat.le_refl _)
  rw [List.take_length] at h1
  have hnd : (compact ((ss ++ ts).mergeSort leT)).Nodup := by
    rw [List.nodup_iff_pairwise_ne]
    exact h2.imp fun h => h.2
  have hmm : ∀ k, k ∈ compact ((ss ++ ts).mergeSort leT) ↔ (k ∈ keysR U ∧ f k = true) := by
    intro k
    rw [← hm k]
    exact (h1 k).trans (List.mergeSort_perm _ _).mem_iff
  have hp : (compact ((ss ++ ts).mergeSort leT)).Perm ((keysR U).filter f) := (List.perm_ext_iff_of_nodup hnd (hU.nodup.filter _)).2 fun k => by rw [hmm, List.mem_filter]
  exact List.Perm.eq_of_pairwise (le := fun a b => leT a b = true) (fun a b _ _ h1 h2 => leT_anti a b h1 h2) (h2.imp fun h => h.1) (hU.keys.filter _) hp
end Go.Proofs.Ytkeledbgmpienaa

/- slices.SortFunc of texts by name.Compare: a row of the call's own, in the paths' order. -/
namespace Go.Proofs.Ytkeledbgmpienaa
open Go.Shelf Go.RowKit Go.Lib Go.Sort

/-- a text that is no longer than a text may be -/
abbrev TxtB := { l : List UInt8 // l.length ≤ 9223372036854775807 }
instance : Inhabited TxtB := ⟨⟨[], by simp⟩⟩
def txtV (x : TxtB) : Value := .string ⟨⟨x.1⟩⟩
def cmpX (x y : TxtB) : Int := cmpT x.1 y.1

section
variable {α : Type} [Inhabited α] {enc : α → Value}
theorem heap_sortedG {w : World} {g n : Nat} {os : Array Obj} {cur : Array Value} {e : TypeId} {fr : Nat × Nat} (d : Array α) (hb : w.heap[g]? = some (.cells cur e fr)) :
    (grow (putRow enc (Sort.ahead w n) g 0 d) os).heap[g]? = some (.cells (putCells enc 0 d cur) e fr) := by
  have hg : g < w.heap.size := (Array.getElem?_eq_some_iff.1 hb).1
  rw [heap_grow_old _ _ (by simpa using hg)]
  simp [putRow, mapBlock, Sort.ahead, Array.getElem?_modify, hb, onCells]
theorem grownBy_sortedG {w : World} {g n : Nat} {os : Array Obj} (d : Array α) : w.grownBy (grow (putRow enc (Sort.ahead w n) g 0 d) os) (some g) := by
  refine ⟨rfl, rfl, rfl, by simp, fun k hk hne => ?_⟩
  rw [heap_grow_old _ _ (by simpa using hk)]
  have : g ≠ k := fun e => hne (by rw [e])
  simp [putRow, mapBlock, Sort.ahead, Array.getElem?_modify, this]
theorem take_putCellsG (cur : Array Value) (ts : List α) (h : ts.length ≤ cur.size) : (putCells enc 0 ts.toArray cur).toList.take ts.length = ts.map enc := by
  apply List.ext_getElem?
  intro j
  by_cases hj : j < ts.length
  · rw [List.getElem?_take_of_lt hj, Array.getElem?_toList]
    simp [putCells, hj, show j < cur.size by omega]
  · rw [List.getElem?_take_eq_none (by omega), List.getElem?_eq_none (by simp; omega)]
theorem ownsRow_sortedG {w : World} {base g cap n : Nat} {e : TypeId} {os : Array Obj} {cur : Array Value} {ss ts : List α} (hl : ts.length = ss.length) (hbase : base ≤ g) (hb : w.heap[g]? = some (.cells cur e (0, 0)))
    (h1 : ss.length ≤ cap) (h2 : cap ≤ maxLen) (h3 : cur.size = cap * 1) :
    (grow (putRow enc (Sort.ahead w n) g 0 ts.toArray) os).ownsRow base e 1 (.slice (some ⟨g, 0, none⟩) ss.length cap) ss.length (ts.map enc) :=
  ⟨by simp [hl], .inr ⟨g, cap, _, rfl, hbase, heap_sortedG _ hb, h1, h2, by simp [putCells, h3], by rw [Nat.mul_one, ← hl]; exact take_putCellsG cur ts (by omega)⟩⟩
theorem holds_of_blockG {w : World} {g : Nat} {cur : Array Value} {e : TypeId} {ss : List α} (hb : w.heap[g]? = some (.cells cur e (0, 0))) (ht : cur.toList.take ss.length = ss.map enc) : Holds enc w g 0 ss.toArray := by
  intro j hj
  have hj' : j < ss.length := by simpa using hj
  refine ⟨?_, by simp [World.frozen?, hb]⟩
  have h1 : (cur.toList.take ss.length)[j]? = (ss.map enc)[j]? := by rw [ht]
  rw [List.getElem?_take_of_lt hj'] at h1
  simp only [World.cell?, hb, Nat.zero_add]
  simp only [Option.isSome_none, Bool.false_eq_true, if_false]
  rw [← Array.getElem?_toList, h1]
  simp [hj']
end
theorem cmpX_lt (x y : TxtB) : ltOf cmpX x y = decide (cmpT x.1 y.1 < 0) := rfl
theorem swoX : SWO (ltOf cmpX) where
  irrefl x := by rw [cmpX_lt, cmpT_self]; simp
  trans x y z h1 h2 := by
    rw [cmpX_lt] at *
    simp only [decide_eq_true_eq] at *
    exact ordT.trans _ _ _ h1 h2
  ntrans x y z h1 h2 := by
    rw [cmpX_lt] at *
    have := leT_trans z.1 y.1 x.1 (by simpa [leT] using h2) (by simpa [leT] using h1)
    simpa [leT] using this
theorem totX (x y : TxtB) (h1 : ltOf cmpX x y = false) (h2 : ltOf cmpX y x = false) : x = y := by
  rw [cmpX_lt] at *
  exact Subtype.ext (leT_anti x.1 y.1 (by simpa [leT] using h2) (by simpa [leT] using h1))
theorem cmpReadsX (blk off size : Nat) (w : World) : CmpReads Try.prog 25 #[] txtV cmpX blk off size w := by
  intro m os dk _ x y
  refine (compare_any ⟨⟨x.1⟩⟩ ⟨⟨y.1⟩⟩ x.2 y.2 _).mono ?_
  rintro e w' ⟨rfl, hq⟩
  exact ⟨rfl, hq⟩
theorem txts : ∀ (ss : List (List UInt8)), (∀ x ∈ ss, x.length ≤ 140737488355328) → ∃ ts : List TxtB, ts.map Subtype.val = ss
  | [], _ => ⟨[], rfl⟩
  | x :: ss, h => by
    obtain ⟨ts, e⟩ := txts ss (fun y hy => h y (by simp [hy]))
    exact ⟨⟨x, by have := h x (by simp); omega⟩ :: ts, by rw [List.map_cons, e]⟩
set_option maxHeartbeats 1000000 in
/-- a row of texts is sorted by name.Compare -/
theorem sortsT : SortsT := by
  intro base A c ss w hown hl hss
  obtain ⟨ts, hts⟩ := txts ss hl
  have hlen : ts.length = ss.length := by rw [← hts, List.length_map]
  have hmv : ss.map stv = ts.map txtV := by rw [← hts, List.map_map]; rfl
  rcases hown.2 with ⟨hnil, h0⟩ | ⟨g, cap, cur, hv, hbase, hb, h1, h2, h3, h4⟩
  · obtain ⟨rfl, hl0, rfl⟩ : A = none ∧ ss.length = 0 ∧ c = 0 := by simpa using hnil
    obtain rfl : ss = [] := List.eq_nil_of_length_eq_zero hl0
    have hcon := AnyF.slices_SortFunc_none { Try.sortT with } none 0 (.func (.func 25) #[] #[]) w
    change Calls Try.prog 69 _ _ _ at hcon
    refine hcon.mono ?_
    rintro e w' ⟨rfl, rfl⟩
    exact ⟨rfl, by simpa using hown, World.grownBy.refl _ _⟩
  · obtain ⟨rfl, rfl⟩ : A = some ⟨g, 0, none⟩ ∧ c = cap := by simpa using hv
    have eg : ∀ args w, (callFunc 25 args).run Try.prog w = .ok (.enter 25 args) w := enters_of Try.func25 (by kernel_rfl) rfl
    have hglt : g < w.heap.size := (Array.getElem?_eq_some_iff.1 hb).1
    have hH : Holds txtV w g 0 ts.toArray := holds_of_blockG hb (by rw [hlen, ← hmv]; simpa using h4)
    have hbig : ss.length < 4611686018427387904 := by omega
    have hcon := Any.slices_SortFunc_total Try.sortT txtV (fun _ => rfl) cmpX swoX 25 #[] g 0 c ts.toArray w eg (cmpReadsX g 0 ts.toArray.size w).lays hH hglt (by simpa [hlen] using hbig) totX
    change Calls Try.prog 69 _ _ _ at hcon
    rw [show ts.toArray.size = ss.length by simp [hlen]] at hcon
    refine hcon.mono ?_
    rintro e w' ⟨rfl, n, os, rfl⟩
    have hms : (ts.mergeSort fun x y => !(ltOf cmpX) y x).map Subtype.val = ss.mergeSort leT := by
      rw [← hts]
      exact List.map_mergeSort (fun a _ b _ => rfl)
    refine ⟨rfl, ?_, ?_⟩
    · have := ownsRow_sortedG (enc := txtV) (n := n) (os := os) (ts := ts.mergeSort fun x y => !(ltOf cmpX) y x) (ss := ts) (by rw [List.length_mergeSort]) hbase hb (by omega) h2 h3
      rw [hlen] at this
      have e2 : (ss.mergeSort leT).map stv = (ts.mergeSort fun x y => !(ltOf cmpX) y x).map txtV := by rw [← hms, List.map_map]; rfl
      rw [e2]
      exact this
    · exact grownBy_sortedG _
end Go.Proofs.Ytkeledbgmpienaa

/- slices.Compact of a sorted row of texts of the call's own. -/
namespace Go.Proofs.Ytkeledbgmpienaa
open Go.Shelf Go.RowKit Go.Lib Go.Sort

theorem own_cut {w : World} {base : Nat} {e : TypeId} {size n c : Nat} {A : Option Addr} {xs : List Value} (h : w.ownsRow base e size (.slice A n c) n xs) (k : Nat) (hk : k ≤ n) (hA : A = none → k = 0) : w.ownsRow base e size (.slice A k c) k (xs.take (k * size)) := by
  have hkn : k * size ≤ n * size := Nat.mul_le_mul_right _ hk
  refine ⟨by rw [List.length_take, h.1]; omega, ?_⟩
  rcases h.2 with ⟨hv, h0⟩ | ⟨g, cap, cur, hv, hb, hg, h1, h2, h3, h4⟩
  · injection hv with e1 e2 e3
    subst e1 e3
    have : k = 0 := by omega
    subst this
    exact .inl ⟨rfl, rfl⟩
  · injection hv with e1 e2 e3
    subst e1 e3
    exact .inr ⟨g, c, cur, rfl, hb, hg, by omega, h2, h3, by rw [← h4, List.take_take]; congr 1; omega⟩
end Go.Proofs.Ytkeledbgmpienaa

/- tree.Diff: the walk. -/
namespace Go.Proofs.Ytkeledbgmpienaa
open Go.RowKit Go.Lib

theorem union_keys (ps : List (List UInt8)) : SortR (unionR ps) ∧ ∀ k, k ∈ keysR (unionR ps) ↔ k ∈ ps := by
  have : ∀ (qs : List (List UInt8)) (T : List (List UInt8 × LV)), SortR T → SortR (qs.foldl (fun T p => putR T p dirV) T) ∧ ∀ k, k ∈ keysR (qs.foldl (fun T p => putR T p dirV) T) ↔ (k ∈ keysR T ∨ k ∈ qs) := by
    intro qs
    induction qs with
    | nil => intro T h; exact ⟨h, by simp⟩
    | cons q qs ih =>
      intro T h
      obtain ⟨h1, h2⟩ := ih (putR T q dirV) (h.put q dirV)
      refine ⟨h1, fun k => ?_⟩
      rw [List.foldl_cons, h2, ← getR_isSome, getR_put]
      by_cases e : k = q
      · rw [if_pos e]; simp [e]
      · rw [if_neg e, getR_isSome]; simp [e]
  have := this ps [] sortR_nil
  exact ⟨this.1, fun k => by rw [show unionR ps = ps.foldl (fun T p => putR T p dirV) [] from rfl, this.2 k]; simp [keysR]⟩
theorem diff_eq (S T : List (List UInt8 × LP)) : compact (((keysR S).filter (diffB S T) ++ (keysR T).filter (diffB S T)).mergeSort leT) = diffS S T := by
  obtain ⟨h1, h2⟩ := union_keys (keysR S ++ keysR T)
  refine compact_union _ _ h1 _ fun k => ?_
  rw [h2, List.mem_append, List.mem_append, List.mem_filter, List.mem_filter]
  constructor
  · rintro (⟨a, b⟩ | ⟨a, b⟩)
    · exact ⟨.inl a, b⟩
    · exact ⟨.inr a, b⟩
  · rintro ⟨a | a, b⟩
    · exact .inl ⟨a, b⟩
    · exact .inr ⟨a, b⟩
end Go.Proofs.Ytkeledbgmpienaa

/- tree: Same, and a tree that is none. -/
namespace Go.Proofs.Ytkeledbgmpienaa
open Go.RowKit

theorem treeClone_nil (w : World) : Calls Try.prog 31 #[.pointer none] w fun e w' => e = .returned (.pointer none) ∧ Below w.heap.size w w' := by
  go_enter Try.func31, Try.ntmps31
  go_wp2_with fail
  go_ret
  exact ⟨rfl, Below.refl _ _⟩
theorem treeItems_nil (w : World) : Calls Try.prog 17 #[.pointer none] w fun e w' => e = .returned (.slice none 0 0) ∧ Below w.heap.size w w' := by
  go_enter Try.func17, Try.ntmps17
  go_wp2_with fail
  refine (treeall_nil w).mono ?_
  rintro e w1 ⟨rfl, rfl⟩
  go_wp2_with fail
  go_loopw [2, 8] (fun ov iv wr => ov = .slice none 0 0 ∧ iv = .int .i64 0 ∧ Below w.heap.size w wr) (fun _ _ _ => 0)
  case atStart => exact ⟨rfl, rfl, Below.refl _ _⟩
  case round =>
    obtain ⟨rfl, rfl, hb⟩ := hrel
    go_wp2_with fail
    go_ret
    exact ⟨rfl, hb⟩
theorem treeBelow_nil (p : List UInt8) (w : World) : Calls Try.prog 65 #[.pointer none, .string ⟨⟨p⟩⟩] w fun e w' => e = .returned (.slice none 0 0) ∧ Below w.heap.size w w' := by
  go_enter Try.func65, Try.ntmps65
  go_wp2_with fail
  refine (paths_nil _ _).mono ?_
  rintro e w1 ⟨rfl, rfl⟩
  go_wp2_with fail
  go_ret
  exact ⟨rfl, (by repeat (first | exact Below.refl _ _ | refine Below.alloc ?_ (by simp) _ | refine Below.setCell ?_ (by simp) _ | refine Below.drew ?_))⟩
theorem treeGet_nil (p : List UInt8) (w : World) : Calls Try.prog 32 #[.pointer none, .string ⟨⟨p⟩⟩] w fun e w' => LeafOwn w' w.heap.size e none ∧ Below w.heap.size w w' := by
  refine (treeGet_ofP none p w 0 none 0 [] (fun _ => False) Rd.nil (by simp) (fun W _ => treeget_nil p W)).mono ?_
  rintro e w' ⟨A', c', l', rfl, h1, h2, h3⟩
  exact ⟨⟨A', c', l', rfl, h1, h2⟩, h3⟩
end Go.Proofs.Ytkeledbgmpienaa

/- tenderlaw08: Plays. -/
namespace Go.Proofs.Ytkeledbgmpienaa
open Go.RowKit Go.Maps

/-- a tree on which items were set, and the document's -/
structure Played (w : World) (T : List (List UInt8 × LP)) (tb : Nat) (mo : Option Nat) (L : List (List UInt8 × LV)) (B : Option Addr) (M : List (List UInt8 × LV)) : Prop where
  tree : TreeAt w tb mo L
  plain : Hid (plainL L = T)
  its : Its w B M
  same : Hid (plainL M = T)
theorem Played.below {w w' : World} {T : List (List UInt8 × LP)} {tb : Nat} {mo : Option Nat} {L M : List (List UInt8 × LV)} {B : Option Addr} (h : Played w T tb mo L B M) (k : Below w.heap.size w w') : Played w' T tb mo L B M := ⟨h.tree.below k, h.plain, h.its.below k, h.same⟩


set_option maxRecDepth 100000 in
set_option maxHeartbeats 1000000 in
theorem plays08_any (A : Option Addr) (c : Nat) (l : List (List UInt8 × LV)) (w : World) (h : ItA w A l) (hl : l.length ≤ 200 ∧ ∀ x ∈ l, x.1.length ≤ 200 ∧ x.2.x.l.length ≤ 20000) :
    Calls Try.prog 13 #[.slice A l.length c] w fun e w' => ∃ (tb : Nat) (mo : Option Nat) (L : List (List UInt8 × LV)) (B : Option Addr) (d : Nat) (M : List (List UInt8 × LV)), e = .returned (.tuple #[.pointer (some ⟨tb, 0, none⟩), .slice B M.length d, .bool true]) ∧ Played w' (playS [] (plainL l)) tb mo L B M ∧
      w.heap.size ≤ tb ∧ (∀ m, mo = some m → w.heap.size ≤ m) ∧ Below w.heap.size w w' := by
  have HA := Lib.hid h
  clear h
  go_enter Try.func13, Try.ntmps13
  go_wp2_with fail
  refine (treeNew_nil w).mono ?_
  rintro e w1 ⟨rfl, ht1, hb1⟩
  obtain ⟨tb, htb⟩ : ∃ tb, tb = w.heap.size := ⟨_, rfl⟩
  rw [← htb] at ht1
  rw [← htb]
  have HT1 := Lib.hid ht1
  have htw : w.heap.size ≤ tb := by omega
  clear ht1 htb
  go_wp2_with fail
  go_loopw [7, 24] (fun wv iv wr => ∃ (i : Nat) (mo : Option Nat) (L : List (List UInt8 × LV)) (B : Option Addr) (d : Nat) (M : List (List UInt8 × LV)), i ≤ l.length ∧ iv = .int .i64 (i : Int) ∧ wv = .slice B M.length d ∧ Played wr (playS [] (plainL (l.take i))) tb mo L B M ∧ (∀ m, mo = some m → w.heap.size ≤ m) ∧ Below w.heap.size w wr) (fun _ iv _ => l.length - (intOf iv).toNat)
  case atStart => exact ⟨0, none, [], none, 0, [], Nat.zero_le _, rfl, rfl, ⟨HT1.out, rfl, Its.nil _, rfl⟩, by simp, hb1⟩
  case round =>
    obtain ⟨i, mo, L, B, d, M, hi, rfl, rfl, hP, hmo, hb⟩ := hrel
    by_cases hlt : i < l.length
    · have hA := HA.out.below hb
      obtain ⟨b, off, rfl, hbb, hc0, hc1, hc2⟩ := hA.at_ hlt
      have hxo := hA.ok _ (List.getElem_mem hlt)
      have hxl := hl.2 _ (List.getElem_mem hlt)
      have hps : Hid (playS [] (plainL (l.take (i + 1))) = setS (playS [] (plainL (l.take i))) l[i].1 l[i].2.p) := Lib.hid (by rw [plain_snoc l i hlt, play_snoc])
      have hsz := hb.size
      obtain ⟨x, hx⟩ : ∃ x, x = l[i] := ⟨_, rfl⟩
      rw [← hx] at hc0 hc1 hc2 hxo hxl hps
      simp only [stv] at hc0
      obtain ⟨T, hT⟩ : ∃ T, T = playS [] (plainL (l.take i)) := ⟨_, rfl⟩
      rw [← hT] at hP hps
      have hba : Below wr.heap.size wr (wr.alloc (.cells #[.string ⟨⟨x.1⟩⟩, .int .i64 x.2.k, .slice x.2.x.A x.2.x.l.length x.2.x.c] 56)) := (Below.refl _ _).alloc (Nat.le_refl _) _
      have xb := Blk.new wr 56 #[.string ⟨⟨x.1⟩⟩, .int .i64 x.2.k, .slice x.2.x.A x.2.x.l.length x.2.x.c]
      have hP1 := hP.below hba
      have hw1 := hb.trans (hba.mono hb.size)
      have HX1 := Lib.hid (hxo.1.x.below hba)
      have HP1 := Lib.hid hP1
      have htl := hP.tree.blk.lt
      have hml := hP.tree.lt
      obtain ⟨hx1, hx2⟩ := hxl
      have hok : TreeOk (plainL M) := by rw [hP.same.out, ← hP.plain.out]; exact hP.tree.plain
      have hMS : mayS (plainL M) x.1 (x.2.k, x.2.x.l) = mayS T x.1 (x.2.k, x.2.x.l) := by rw [hP.same.out]
      have HLM : Hid (mayS (plainL L) x.1 (x.2.k, x.2.x.l) = mayS T x.1 (x.2.k, x.2.x.l)) := Lib.hid (by rw [hP.plain.out])
      have q0 := xb.cell 0
      have q1 := xb.cell 1
      have q2 := xb.cell 2
      simp only [List.getElem?_toArray, List.getElem?_cons_zero, List.getElem?_cons_succ] at q0 q1 q2
      clear hP hA hxo hx hT hP1
      go_wp2_with fail
      refine (refSet_any B d M x.1 x.2.k x.2.x.A x.2.x.c x.2.x.l _ HP1.out.its hok (HX1.out.mono (fun _ _ _ => trivial)) (by omega) (by omega)).mono ?_
      rintro e w2 ⟨B2, d2, M2, rfl, hM2, hI2, hb2⟩
      rw [hMS] at hM2 ⊢
      have HM2 : Hid (plainL M2 = playS [] (plainL (l.take (i + 1)))) := Lib.hid (by have := plain_step M x.1 x.2; rw [hM2.out, ← hMS]; refine this.trans ?_; rw [HP1.out.same.out, hps.out])
      have HI2 := Lib.hid hI2
      have HT2 := Lib.hid (HP1.out.tree.below hb2)
      have HX2 := Lib.hid ((HX1.out.below hb2).1)
      have xb2 := xb.below hb2
      have hw2 := hw1.trans (hb2.mono hw1.size)
      have hxn : ¬ (wr.heap.size = tb ∨ mo = some wr.heap.size) := by
        rintro (e | e)
        · omega
        · have := hml _ e; omega
      have q0 := xb2.cell 0
      have q1 := xb2.cell 1
      have q2 := xb2.cell 2
      simp only [List.getElem?_toArray, List.getElem?_cons_zero, List.getElem?_cons_succ] at q0 q1 q2
      have HPS : Hid (setS (plainL L) x.1 (x.2.k, x.2.x.l) = playS [] (plainL (l.take (i + 1)))) := Lib.hid (by rw [hps.out, HP1.out.plain.out]; rfl)
      clear hM2 hI2 hb2 HX1 xb hps HP1 hok
      have HMT := Lib.hid hMS
      obtain ⟨ms, hms⟩ : ∃ ms, ms = mayS T x.1 (x.2.k, x.2.x.l) := ⟨_, rfl⟩
      have HMS : Hid (mayS (plainL L) x.1 (x.2.k, x.2.x.l) = ms) := Lib.hid (by rw [HLM.out, hms])
      rw [← hms]
      clear hms hMS HLM HMT
      go_wp2_with fail
      refine (treeSet_any sortsT tb mo L x.1 x.2.k x.2.x.A x.2.x.c x.2.x.l _ w2 HT2.out HX2.out (by omega) (by omega)).mono ?_
      rintro e w3 ⟨rfl, hto⟩
      rw [HMS.out]
      obtain ⟨⟨mo', L', hT3, hL3, hmo3⟩, hfr⟩ := hto
      have HI3 := Lib.hid (HI2.out.set HT2.out hfr)
      have HT3 := Lib.hid hT3
      have hL4 : Hid (plainL L' = playS [] (plainL (l.take (i + 1)))) := Lib.hid (hL3.out.trans HPS.out)
      have hw3 : Below w.heap.size w w3 := hw2.trans (hfr.below hw2.size (fun k hk e => by
        rcases e with e | e
        · omega
        · have := hmo _ e; omega))
      have hmo4 : ∀ m, mo' = some m → w.heap.size ≤ m := fun m e => by
        rcases hmo3 m e with e | e
        · exact hmo m e
        · have := hw2.size; omega
      clear hT3 hfr hL3 HI2 HT2 HX2 xb2 hmo3 q0 q1 q2 HPS HMS
      go_wp2_with fail
      go_roundw
      case rel => exact ⟨i + 1, mo', L', B2, d2, M2, hlt, by go_num, rfl, ⟨HT3.out, hL4, HI3.out, HM2⟩, hmo4, hw3⟩
      case measure => simp [intOf]; omega
    · have e : i = l.length := by omega
      subst e
      rw [List.take_length] at hP
      go_wp2_with fail
      go_ret3
      exact ⟨tb, mo, L, B, d, M, rfl, hP, htw, hmo, hb⟩

end Go.Proofs.Ytkeledbgmpienaa

/- tenderref26.Clash; fence.clash, Clash. -/
namespace Go.Proofs.Ytkeledbgmpienaa
open Go.RowKit Go.WideShapes Go.ChangeShapes Go.ChangeAt

theorem side_two {w : World} {b : Nat} {t : TypeId} {x y x' y' : Value} (h : Blk w b t #[x, y]) :
    Blk ((w.setCell ⟨b, 0, none⟩ x').setCell ⟨b, 1, none⟩ y') b t #[x', y'] ∧ Fr (fun k => k = b) w ((w.setCell ⟨b, 0, none⟩ x').setCell ⟨b, 1, none⟩ y') := by
  refine ⟨?_, ((Fr.refl (fun k => k = b) w).setAt b 0 rfl _).setAt b 1 rfl _⟩
  have := (h.set_ 0 x').set_ 1 y'
  simpa using this

end Go.Proofs.Ytkeledbgmpienaa

/- fence.Clash, Sound. -/
namespace Go.Proofs.Ytkeledbgmpienaa
open Go.RowKit Go.WideShapes Go.ChangeShapes Go.ChangeAt

/-- is there a clash of two? -/
def clB (p q : CV) : Bool := upB p q || lowB p q

/-- is none in a clash with any? -/
def soundB (l : List CV) : Bool := l.all fun p => l.all fun q => !(clB p q)
theorem soundB_iff (l : List CV) : soundB l = true ↔ ∀ (i k : Nat) (a b : CV), l[i]? = some a → l[k]? = some b → clB a b = false := by
  unfold soundB
  simp only [List.all_eq_true, Bool.not_eq_true']
  constructor
  · intro h i k a b ha hb
    exact h a (List.mem_of_getElem? ha) b (List.mem_of_getElem? hb)
  · intro h a ha b hb
    obtain ⟨i, hi⟩ := List.mem_iff_getElem?.1 ha
    obtain ⟨k, hk⟩ := List.mem_iff_getElem?.1 hb
    exact h i k a b hi hk
theorem soundB_no {l : List CV} {i k : Nat} {a b : CV} (ha : l[i]? = some a) (hb : l[k]? = some b) (h : clB a b = true) : soundB l = false := by
  cases hs : soundB l with
  | false => rfl
  | true => rw [(soundB_iff l).1 hs i k a b ha hb] at h; cases h
theorem closed_sound (l : List CV) : soundB l = true ↔ Closed l := by
  rw [soundB_iff]
  unfold clB
  simp only [Bool.or_eq_false_iff]
  exact ⟨fun h => closed_of h, fun h i k a b ha hb => h.pair (List.mem_of_getElem? ha) (List.mem_of_getElem? hb)⟩
theorem blk9 {w : World} {g : Nat} {x : CV} (h : Blk w g 26 x.cells.toArray) : At9 w g 0 x := by
  obtain ⟨a0, a1, a2, a3, a4, a5, a6, a7, a8⟩ := cells9 h
  exact ⟨a0, a1, a2, a3, a4, a5, a6, a7, a8⟩

end Go.Proofs.Ytkeledbgmpienaa

/- fence.Close. -/
namespace Go.Proofs.Ytkeledbgmpienaa
open Go.RowKit Go.WideShapes Go.ChangeShapes Go.ChangeAt

section
variable {P : Program} {a : Act} {w : World} {Q : Exit → Act → World → Prop}
/-- A scope in which the run jumps back to one label: what holds at every jump, with a number that every pass lowers; the way to the label is walked once. -/
theorem Turns.paths {l x : List CV} (h : Turns l x) : x.map CV.p = l.map CV.p := by
  induction h with
  | none => rfl
  | turn _ _ ih => rw [← ih]; simp [CV.conf]
theorem Turns.path {l x : List CV} (h : Turns l x) {i : Nat} {a : CV} (ha : x[i]? = some a) : a.p ∈ l.map CV.p := by
  rw [← h.paths]
  exact List.mem_map_of_mem (List.mem_of_getElem? ha)
theorem wp_scope_ghost {c rest r : Code} (l : Nat) (J : Nat → Act → World → Prop) (hf : findLabel c l = some rest) (hr : ∀ Q a w, r.wp P Q a w → rest.wp P Q a w)
    (pass' : ∀ n a w, J n a w → r.wp P (Exit.jump l (fun a' w' => ∃ m, m < n ∧ J m a' w') Q) a w)
    (first : (∀ n a w, J n a w → r.wp P (Exit.jump l (fun a' w' => ∃ m, J m a' w') Q) a w) → c.wp P (Exit.jump l (fun a' w' => ∃ m, J m a' w') Q) a w) : (Code.scope c).wp P Q a w := by
  have first' := first (fun n a w hJ => Code.wp_mono (fun e a' w' h => by
    cases e with
    | goto l' => obtain ⟨h1, m, _, h2⟩ := h; exact ⟨h1, m, h2⟩
    | normal => exact h
    | exit id => exact h
    | ret => exact h
    | panic ch => exact h
    | outgrown => exact h) (pass' n a w hJ))
  have pass := fun n a w hJ => hr _ _ _ (pass' n a w hJ)
  intro b k cs
  have hg : gotoIn l (.inScope c :: k) = some (.code rest :: .inScope c :: k) := by simp [gotoIn, hf]
  have key : ∀ n a w, J n a w → ∃ e a' w', Q e a' w' ∧ Arrives P (lone (b.at a (.code rest :: .inScope c :: k)) cs w) b k cs e a' w' := by
    intro n
    induction n using Nat.strongRecOn with
    | _ n ih =>
      intro a w hJ
      obtain ⟨e, a₁, w₁, hq, harr⟩ := pass n a w hJ b (.inScope c :: k) cs
      cases e with
      | normal => exact ⟨.normal, a₁, w₁, hq, Steps.trans harr (.one step_inScope)⟩
      | exit id => exact ⟨.exit id, a₁, w₁, hq, fun k' hk => harr k' (by simp [exitTo, hk])⟩
      | goto l' =>
        obtain ⟨rfl, m, hlt, hJ'⟩ := hq
        obtain ⟨e₂, a₂, w₂, hq₂, harr₂⟩ := ih m hlt a₁ w₁ hJ'
        exact ⟨e₂, a₂, w₂, hq₂, .of_steps (harr _ hg) harr₂⟩
      | ret => exact ⟨_, a₁, w₁, hq, harr⟩
      | panic ch => exact ⟨_, a₁, w₁, hq, harr⟩
      | outgrown => exact ⟨_, a₁, w₁, hq, harr⟩
  obtain ⟨e, a₁, w₁, hq, harr⟩ := first' b (.inScope c :: k) cs
  cases e with
  | normal => exact ⟨.normal, a₁, w₁, hq, .head step_scope (Steps.trans harr (.one step_inScope))⟩
  | exit id => exact ⟨.exit id, a₁, w₁, hq, fun k' hk => .head step_scope (harr k' (by simp [exitTo, hk]))⟩
  | goto l' =>
    obtain ⟨rfl, m, hJ'⟩ := hq
    obtain ⟨e₂, a₂, w₂, hq₂, harr₂⟩ := key m a₁ w₁ hJ'
    exact ⟨e₂, a₂, w₂, hq₂, .of_steps (.head step_scope (harr _ hg)) harr₂⟩
  | ret => exact ⟨_, a₁, w₁, hq, .of_steps (.one step_scope) harr⟩
  | panic ch => exact ⟨_, a₁, w₁, hq, .of_steps (.one step_scope) harr⟩
  | outgrown => exact ⟨_, a₁, w₁, hq, .of_steps (.one step_scope) harr⟩
end


/-- what holds at the label -/
def ClJ (w : World) (v : Value) (l : List CV) (n : Nat) (a : Act) (w' : World) : Prop :=
  ∃ (A : Option Addr) (c N : Nat) (x : List CV) (u4 u5 u6 u7 u8 u9 u10 u11 u12 u13 u14 u15 u16 u17 u18 u19 u20 u21 u22 u23 u24 u25 u26 u27 u28 u29 u30 u31 u32 u33 u34 u35 u36 u37 u38 u39 u40 u41 u42 u43 u44 u45 u46 u47 u48 : Value), a = { tmps := #[v, undef, .slice none 0 0, .slice A N c, u4, u5, u6, u7, u8, u9, u10, u11, u12, u13, u14, u15, u16, u17, u18, u19, u20, u21, u22, u23, u24, u25, u26, u27, u28, u29, u30, u31, u32, u33, u34, u35, u36, u37, u38, u39, u40, u41, u42, u43, u44, u45, u46, u47, u48], defers := [] } ∧ x.length = N ∧
    Turns l x ∧ mv x = n ∧ Row w' w.heap.size 26 9 A x.length c (x.flatMap CV.cells) ∧ Below w.heap.size w w'


end Go.Proofs.Ytkeledbgmpienaa

/- tenderlaw26: Light, lives. -/
namespace Go.Proofs.Ytkeledbgmpienaa
open Go.RowKit Go.WideShapes Go.ChangeShapes Go.ChangeAt

def lensF (l : List CV) : Nat := (l.map fun o => o.p.size).sum
def lightF (l : List CV) : Bool := decide (l.length ≤ 40) && decide (lensF l ≤ 3000)
theorem lensF_take (l : List CV) (i : Nat) (hi : i < l.length) : lensF (l.take (i + 1)) = lensF (l.take i) + l[i].p.size := by
  unfold lensF
  rw [List.take_succ_eq_append_getElem hi, List.map_append, List.sum_append]
  simp
theorem lensF_le (K : Nat) : ∀ (l : List CV), (∀ o ∈ l, o.p.size ≤ K) → lensF l ≤ l.length * K
  | [], _ => by simp [lensF]
  | o :: l, h => by
    have h1 := h o (by simp)
    have h2 := lensF_le K l (fun o ho => h o (by simp [ho]))
    simp only [lensF, List.map_cons, List.sum_cons, List.length_cons, Nat.add_mul] at h2 ⊢
    omega
theorem lensF_take_le (K : Nat) (l : List CV) (i : Nat) (h : ∀ o ∈ l, o.p.size ≤ K) : lensF (l.take i) ≤ i * K := by
  have h1 := lensF_le K (l.take i) (fun o ho => h o (List.mem_of_mem_take ho))
  have h2 : (l.take i).length ≤ i := List.length_take_le _ _
  have h3 : (l.take i).length * K ≤ i * K := Nat.mul_le_mul_right _ h2
  omega
def SeenF (l : List CV) (i : Nat) (s : Int) : Prop := i ≤ 40 → s = (lensF (l.take i) : Int)
theorem seenF_step {l : List CV} {i : Nat} {s : Int} (hs : SeenF l i s) (hi : i < l.length) (h : ∀ o ∈ l, o.p.size ≤ 140737488355328) : SeenF l (i + 1) (wrap64 (s + (l[i].p.size : Int))) := by
  intro hi2
  have e := hs (by omega)
  have h1 := lensF_take_le 140737488355328 l (i + 1) h
  have h2 := lensF_take l i hi
  have h3 : (i + 1) * 140737488355328 ≤ 41 * 140737488355328 := Nat.mul_le_mul_right _ (by omega)
  rw [h2] at h1 ⊢
  rw [e, IntWalk.wrap64_in _ ⟨by omega, by omega⟩]
  omega

set_option maxRecDepth 100000 in
set_option maxHeartbeats 400000 in
theorem lightF_any (A : Option Addr) (c : Nat) (l : List CV) (Z : Nat → Prop) (w : World) (h : Chs w Z A l) :
    Calls Try.prog 5 #[.slice A l.length c] w fun e w' => e = .returned (.bool (lightF l)) ∧ Below w.heap.size w w' := by
  have hlen := h.len
  go_enter Try.func5, Try.ntmps5
  go_wp2_with fail
  go_loopw [3, 8] (fun sv iv wr => ∃ (i : Nat) (s : Int), i ≤ l.length ∧ iv = .int .i64 (i : Int) ∧ sv = .int .i64 s ∧ SeenF l i s ∧ Below w.heap.size w wr) (fun _ iv _ => l.length - (intOf iv).toNat)
  case atStart => exact ⟨0, 0, Nat.zero_le _, rfl, rfl, by intro _; simp [lensF], Below.refl _ _⟩
  case round =>
    obtain ⟨i, s, hi, rfl, rfl, hs, hb⟩ := hrel
    by_cases hlt : i < l.length
    · obtain ⟨b, off, rfl, hz, hbb, at1⟩ := ch_at (h.rd.below hb) hlt
      obtain ⟨a0, a1, a2, a3, a4, a5, a6, a7, a8⟩ := at1
      have hsz := hb.size
      have hpl := h.p _ (List.getElem_mem hlt)
      have hst := Lib.hid (seenF_step hs hlt h.p)
      generalize l[i] = o at *
      obtain ⟨p, bb, m, t, k, oo, ss, ll, v⟩ := o
      dsimp only at *
      go_wp2_with fail
      go_roundw
      case rel => exact ⟨i + 1, _, hlt, by go_num, rfl, hst.out, (hb.alloc hsz _)⟩
      case measure => simp [intOf]; omega
    · have e : i = l.length := by omega
      subst e
      by_cases h2 : l.length ≤ 40
      · have hss := hs h2
        rw [List.take_length] at hss
        subst hss
        go_wp2
        all_goals
          go_ret
          exact ⟨ret_b (by unfold lightF; rw [Bool.eq_iff_iff]; simp; omega), hb⟩
      · go_wp2
        all_goals
          go_ret
          exact ⟨ret_b (by unfold lightF; rw [Bool.eq_iff_iff]; simp; omega), hb⟩
theorem lightF_len {l : List CV} (h : lightF l = true) : l.length ≤ 40 := by
  unfold lightF at h
  simp only [Bool.and_eq_true, decide_eq_true_eq] at h
  exact h.1

def lv1 : CV := ⟨⟨#[100]⟩, 2, true, false, 0, 2, 0, 0, 1⟩
def lv2 : CV := ⟨⟨#[100, 47, 97]⟩, 1, true, false, 0, 1, 0, 0, 1⟩
def lv3 : CV := ⟨⟨#[100, 47, 98]⟩, 0, false, true, 0, 1, 0, 0, 2⟩
theorem lv_closes : Closes [lv1, lv2, lv3] [lv1.conf, lv2.conf, lv3.conf] := by
  have u13 : upB lv1 lv3 = true := by kernel_rfl
  have l12 : lowB lv1.conf lv2 = true := by kernel_rfl
  have l13 : lowB lv1.conf lv3 = true := by kernel_rfl
  refine ⟨?_, ?_⟩
  · have t1 : Turns [lv1, lv2, lv3] ([] ++ lv1.conf :: [lv2, lv3]) := .turn (p := []) (s := [lv2, lv3]) .none (.inl ⟨lv3, by simp, u13⟩)
    have t2 : Turns [lv1, lv2, lv3] ([lv1.conf] ++ lv2.conf :: [lv3]) := .turn (p := [lv1.conf]) (s := [lv3]) t1 (.inr ⟨lv1.conf, by simp, l12⟩)
    exact .turn (p := [lv1.conf, lv2.conf]) (s := []) t2 (.inr ⟨lv1.conf, by simp, l13⟩)
  · intro a ha hf
    have := hf.movesB
    simp only [List.mem_cons, List.not_mem_nil, or_false] at ha
    rcases ha with rfl | rfl | rfl <;> simp [movesB, CV.conf] at this
end Go.Proofs.Ytkeledbgmpienaa

/- order: Apply. -/
namespace Go.Proofs.Ytkeledbgmpienaa
open Go.RowKit Go.WideShapes Go.ChangeShapes Go.ChangeAt Go.Maps

abbrev PT := List (List UInt8 × LP)
def getL (T : PT) (p : List UInt8) : LP := (getR T p).getD (0, [])
def pL (x : CV) : List UInt8 := x.p.data.toList
/-- one change at two trees -/
def stepO (a b : PT) (x : CV) : PT × PT × Int :=
  if x.v = 1 then (a, setS b (pL x) (getL a (pL x)), mayS b (pL x) (getL a (pL x)))
  else if x.v = 2 then (setS a (pL x) (getL b (pL x)), b, mayS a (pL x) (getL b (pL x)))
  else (a, b, 0)
def applyO (a b : PT) : List CV → PT × PT × Int
  | [] => (a, b, 0)
  | x :: l => if (stepO a b x).2.2 = 0 then applyO (stepO a b x).1 (stepO a b x).2.1 l else stepO a b x
theorem applyO_drop (a b : PT) (l : List CV) (i : Nat) (hi : i < l.length) : applyO a b (l.drop i) = if (stepO a b l[i]).2.2 = 0 then applyO (stepO a b l[i]).1 (stepO a b l[i]).2.1 (l.drop (i + 1)) else stepO a b l[i] := by
  rw [List.drop_eq_getElem_cons hi]; rfl
theorem getL_plain (L : List (List UInt8 × LV)) (p : List UInt8) : getL (plainL L) p = (((getR L p).map LV.k).getD 0, ((getR L p).map fun x => x.x.l).getD []) := by
  unfold getL; rw [get_plain]; cases getR L p <;> rfl
theorem TreeAt.getSmall {w : World} {tb : Nat} {mo : Option Nat} {L : List (List UInt8 × LV)} (h : TreeAt w tb mo L) (p : List UInt8) : (getL (plainL L) p).2.length ≤ 4096 := by
  rw [getL_plain]
  rcases hq : getR L p with _ | o
  · simp
  · exact (h.small (getR_mem hq)).1
/-- two trees apart -/
structure Two (w : World) (E ta : Nat) (ma : Option Nat) (La : List (List UInt8 × LV)) (tb : Nat) (mb : Option Nat) (Lb : List (List UInt8 × LV)) : Prop where
  a : TreeAt w ta ma La
  b : TreeAt w tb mb Lb
  la : ∀ g, (g = ta ∨ ma = some g) → E ≤ g
  lb : ∀ g, (g = tb ∨ mb = some g) → E ≤ g
  dis : ∀ g, (g = ta ∨ ma = some g) → ¬ (g = tb ∨ mb = some g)
namespace Two
variable {w w' : World} {E ta tb : Nat} {ma mb : Option Nat} {La Lb : List (List UInt8 × LV)}
theorem swap (h : Two w E ta ma La tb mb Lb) : Two w E tb mb Lb ta ma La := ⟨h.b, h.a, h.lb, h.la, fun g h1 h2 => h.dis g h2 h1⟩
theorem below (h : Two w E ta ma La tb mb Lb) (k : Below w.heap.size w w') : Two w' E ta ma La tb mb Lb := ⟨h.a.below k, h.b.below k, h.la, h.lb, h.dis⟩
theorem set (h : Two w E ta ma La tb mb Lb) (hE : E ≤ w.heap.size) {T : PT} (k : TreeTo w ta ma T w') : ∃ m' L', Two w' E ta m' L' tb mb Lb ∧ Hid (plainL L' = T) ∧ Below E w w' := by
  obtain ⟨⟨m', L', h1, h2, h3⟩, hf⟩ := k
  have hml := h.b.lt
  have htl := h.b.blk.lt
  refine ⟨m', L', ⟨h1, h.b.fr hf (fun e => h.dis _ e (.inl rfl)) (fun m e1 e2 => h.dis _ e2 (.inr e1)) (fun y hy g hg => h.a.ownT (h.b.own y hy) (by decide) g hg), ?_, h.lb, ?_⟩, h2, hf.below hE (fun g hg e => by have := h.la g e; omega)⟩
  · rintro g (e | e)
    · exact h.la g (.inl e)
    · rcases h3 g e with e | e
      · exact h.la g (.inr e)
      · omega
  · rintro g (e | e) e2
    · exact h.dis g (.inl e) e2
    · rcases h3 g e with e | e
      · exact h.dis g (.inr e) e2
      · rcases e2 with e2 | e2
        · omega
        · have := hml g e2; omega
end Two
theorem getO_any (tb : Nat) (mo : Option Nat) (L : List (List UInt8 × LV)) (x : CV) (w : World) (h : TreeAt w tb mo L) (hp : x.p.size ≤ 1048576) :
    Calls Try.prog 32 #[.pointer (some ⟨tb, 0, none⟩), .string x.p] w fun e w' => ∃ (A : Option Addr) (c : Nat) (l : List UInt8), e = .returned (.agg #[.int .i64 (getL (plainL L) (pL x)).1, .slice A l.length c]) ∧ Hid (l = (getL (plainL L) (pL x)).2) ∧ OwB w' w.heap.size (.slice A l.length c) l ∧ Below w.heap.size w w' := by
  have hl : (pL x).length ≤ 1048576 := by unfold pL; rw [Array.length_toList]; exact hp
  refine (treeGet_any tb mo L (pL x) w h (by omega)).mono ?_
  rintro e w' ⟨⟨A, c, l, rfl, h1, h2⟩, hb⟩
  refine ⟨A, c, l, by rw [getL_plain], ?_, h2, hb⟩
  show _ = _
  rw [getL_plain]; exact h1.out
theorem setO_any (tb : Nat) (mo : Option Nat) (L : List (List UInt8 × LV)) (x : CV) (k : Int) (A : Option Addr) (c : Nat) (l : List UInt8) (Z : Nat → Prop) (w : World) (h : TreeAt w tb mo L) (hy : By w Z A l) (hp : x.p.size ≤ 1048576) (hn : l.length ≤ 140737488355328) :
    Calls Try.prog 30 #[.pointer (some ⟨tb, 0, none⟩), .string x.p, .agg #[.int .i64 k, .slice A l.length c]] w fun e w' => e = .returned (.int .i64 (mayS (plainL L) (pL x) (k, l))) ∧ TreeTo w tb mo (setS (plainL L) (pL x) (k, l)) w' :=
  treeSet_any sortsT tb mo L (pL x) k A c l Z w h hy (by unfold pL; rw [Array.length_toList]; exact hp) hn

set_option maxRecDepth 100000 in
set_option maxHeartbeats 2000000 in
theorem orderApply_any (ta : Nat) (ma : Option Nat) (La : List (List UInt8 × LV)) (tb : Nat) (mb : Option Nat) (Lb : List (List UInt8 × LV)) (A : Option Addr) (c : Nat) (l : List CV) (Z : Nat → Prop) (w : World) (ha : TreeAt w ta ma La) (hb : TreeAt w tb mb Lb) (h : Rd w Z 9 A l.length (l.flatMap CV.cells)) (hp : ∀ x ∈ l, x.p.size ≤ 1048576) (hl : l.length ≤ 1000) :
    Calls Try.prog 14 #[.pointer (some ⟨ta, 0, none⟩), .pointer (some ⟨tb, 0, none⟩), .slice A l.length c] w fun e w' => ∃ R, Hid (R = applyO (plainL La) (plainL Lb) l) ∧ Below w.heap.size w w' ∧ ((R.2.2 = 0 ∧ ∃ ca mca Ka cb mcb Kb, e = .returned (.tuple #[.pointer (some ⟨ca, 0, none⟩), .pointer (some ⟨cb, 0, none⟩), .int .i64 0]) ∧ TreeAt w' ca mca Ka ∧ TreeAt w' cb mcb Kb ∧ Hid (plainL Ka = R.1) ∧ Hid (plainL Kb = R.2.1)) ∨ (R.2.2 ≠ 0 ∧ e = .returned (.tuple #[.pointer none, .pointer none, .int .i64 R.2.2]))) := by
  have HRS := Lib.hid h
  have HP := Lib.hid hp
  have HB := Lib.hid hb
  have HA := Lib.hid ha
  obtain ⟨R, hR⟩ : ∃ R, R = applyO (plainL La) (plainL Lb) l := ⟨_, rfl⟩
  have HR := Lib.hid hR
  rw [← hR]
  clear h hp hb ha hR
  go_enter Try.func14, Try.ntmps14
  go_wp2_with fail
  refine (treeClone_any ta ma La w HA.out).mono ?_
  rintro e w1 ⟨ca, mca, rfl, hca, hmca, hCA, hb1⟩
  have HB1 := Lib.hid (HB.out.below hb1)
  have HCA := Lib.hid hCA
  have htl := hCA.blk.lt
  have hml := hCA.lt
  clear hCA
  go_wp2_with fail
  refine (treeClone_any tb mb Lb w1 HB1.out).mono ?_
  rintro e w2 ⟨cb, mcb, rfl, hcb, hmcb, hCB, hb2⟩
  have hs1 := hb1.size
  have hw2 := hb1.trans (hb2.mono hs1)
  have HTW := Lib.hid (show Two w2 w.heap.size ca mca La cb mcb Lb from ⟨HCA.out.below hb2, hCB, fun g e => by
    rcases e with e | e
    · omega
    · exact hmca g e, fun g e => by
    rcases e with e | e
    · omega
    · have := hmcb g e; omega, fun g e e2 => by
    rcases e with e | e <;> rcases e2 with e2 | e2
    · omega
    · have := hmcb g e2; omega
    · have := hml g e; omega
    · have := hml g e; have := hmcb g e2; omega⟩)
  clear hCB HCA HB1 hb1 hb2 hca hmca hcb hmcb htl hml hs1 HA HB
  go_wp2_with fail
  go_loopw [26] (fun iv wr => ∃ (i : Nat) (ma' : Option Nat) (La' : List (List UInt8 × LV)) (mb' : Option Nat) (Lb' : List (List UInt8 × LV)), i ≤ l.length ∧ iv = .int .i64 (i : Int) ∧ Two wr w.heap.size ca ma' La' cb mb' Lb' ∧ Hid (R = applyO (plainL La') (plainL Lb') (l.drop i)) ∧ Below w.heap.size w wr) (fun iv _ => l.length - (intOf iv).toNat)
  case atStart => exact ⟨0, mca, La, mcb, Lb, Nat.zero_le _, rfl, HTW.out, HR, hw2⟩
  case round =>
    obtain ⟨i, ma', La', mb', Lb', hi, rfl, hT, hRi, hb⟩ := hrel
    by_cases hlt : i < l.length
    · have HRX := Lib.hid (hRi.out.trans (applyO_drop (plainL La') (plainL Lb') l i hlt))
      obtain ⟨b, off, rfl, _, hbb, at1⟩ := ch_at (HRS.out.below hb) hlt
      have hpx := HP.out l[i] (List.getElem_mem hlt)
      obtain ⟨x, hx⟩ : ∃ x, x = l[i] := ⟨_, rfl⟩
      rw [← hx] at at1 HRX hpx
      have hba : Below wr.heap.size wr (wr.alloc (.cells #[.string x.p, .int .i64 x.b, .bool x.m, .bool x.t, .int .i64 x.k, .int .i64 x.o, .int .i64 x.s, .int .i64 x.l, .int .i64 x.v] 26)) := (Below.refl _ _).alloc (Nat.le_refl _) _
      have bc : Blk (wr.alloc (.cells #[.string x.p, .int .i64 x.b, .bool x.m, .bool x.t, .int .i64 x.k, .int .i64 x.o, .int .i64 x.s, .int .i64 x.l, .int .i64 x.v] 26)) wr.heap.size 26 x.cells.toArray := Blk.new wr _ _
      have hr3 := hb.trans (hba.mono hb.size)
      have hna : ¬ (wr.heap.size = ca ∨ ma' = some wr.heap.size) := by
        have h1 := hT.a.blk.lt
        have h2 := hT.a.lt
        rintro (e | e)
        · omega
        · have := h2 _ e; omega
      have hnb : ¬ (wr.heap.size = cb ∨ mb' = some wr.heap.size) := by
        have h1 := hT.b.blk.lt
        have h2 := hT.b.lt
        rintro (e | e)
        · omega
        · have := h2 _ e; omega
      replace hT := hT.below hba
      obtain ⟨a0, a1, a2, a3, a4, a5, a6, a7, a8⟩ := at1
      clear hx hRi HTW hw2 hb
      go_upto_region 7 with (fail)
      obtain ⟨zb, hzb⟩ : ∃ zb, zb = wr.heap.size := ⟨_, rfl⟩
      rw [← hzb] at bc hna hnb ⊢
      clear hzb hba a0 a1 a2 a3 a4 a5 a6 a7 a8
      generalize wr.alloc (.cells #[.string x.p, .int .i64 x.b, .bool x.m, .bool x.t, .int .i64 x.k, .int .i64 x.o, .int .i64 x.s, .int .i64 x.l, .int .i64 x.v] 26) = w3 at *
      obtain ⟨q0, q1, q2, q3, q4, q5, q6, q7, q8⟩ := cells9 bc
      obtain ⟨v, hv⟩ : ∃ v, v = x.v := ⟨_, rfl⟩
      by_cases hv1 : v = 1
      · subst hv1
        have HST : Hid (stepO (plainL La') (plainL Lb') x = (plainL La', setS (plainL Lb') (pL x) (getL (plainL La') (pL x)), mayS (plainL Lb') (pL x) (getL (plainL La') (pL x)))) := Lib.hid (by unfold stepO; rw [if_pos hv.symm])
        rw [← hv] at q8
        clear hv
        have hsm := hT.a.getSmall (pL x)
        have HT0 := Lib.hid hT
        have HG := Lib.hid (fun W (hW : Below w3.heap.size w3 W) => getO_any ca ma' La' x W (hT.a.below hW) hpx)
        have n1 := hnb
        clear hT hna hnb
        go_wp2_with fail
        refine wp_region_p [(0, true), (1, true), (2, true), (3, true), (4, true), (5, true), (6, false), (7, false), (8, true)] (fun W => Fr (fun g => g = cb ∨ mb' = some g) w3 W) (by kernel_rfl) (by kernel_rfl) ?_
        simp only [List.map_cons, List.map_nil, List.filterMap_cons, List.filterMap_nil, List.getElem?_cons_zero, List.getElem?_cons_succ, List.length_cons, List.length_nil, Nat.zero_add, Nat.reduceAdd, List.drop_succ_cons, List.drop_zero]
        refine mx_move _ (by kernel_rfl) rfl ⟨_, (by ((try simp [go_sem]); (try rfl); done)), _, (by (simp only [Act.put, List.setIfInBounds_toArray, List.set_cons_zero, List.set_cons_succ]; rfl)), ?_⟩
        refine mx_val (by kernel_rfl) ⟨_, (by (intro w' hC; clear hC; (try go_simp); (try with_reducible rfl); done)), _, (by (simp only [Act.put, List.setIfInBounds_toArray, List.set_cons_zero, List.set_cons_succ]; rfl)), ?_⟩
        refine mx_val (by kernel_rfl) ⟨_, (by (intro w' hC; (obtain ⟨q0, q1, q2, q3, q4, q5, q6, q7, q8⟩ := cells9 (bc.fr hC n1)); clear hC; (try go_simp); (try with_reducible rfl); done)), _, (by (simp only [Act.put, List.setIfInBounds_toArray, List.set_cons_zero, List.set_cons_succ]; rfl)), ?_⟩
        refine mx_move _ (by kernel_rfl) rfl ⟨_, (by ((try simp [go_sem]); (try rfl); done)), _, (by (simp only [Act.put, List.setIfInBounds_toArray, List.set_cons_zero, List.set_cons_succ]; rfl)), ?_⟩
        refine mx_val (by kernel_rfl) ⟨_, (by (intro w' hC; clear hC; (try go_simp); (try with_reducible rfl); done)), _, (by (simp only [Act.put, List.setIfInBounds_toArray, List.set_cons_zero, List.set_cons_succ]; rfl)), ?_⟩
        refine mx_val (by kernel_rfl) ⟨_, (by (intro w' hC; (obtain ⟨q0, q1, q2, q3, q4, q5, q6, q7, q8⟩ := cells9 (bc.fr hC n1)); clear hC; (try go_simp); (try with_reducible rfl); done)), _, (by (simp only [Act.put, List.setIfInBounds_toArray, List.set_cons_zero, List.set_cons_succ]; rfl)), ?_⟩
        refine mx_call ((Fr.refl _ _).drew) (by kernel_rfl) ?_ (HG.out _ (Below.refl _ _).drew) ?_
        · (go_simp; done)
        rintro e w4 ⟨A4, c4, l4, rfl, hl4, ho4, hb4⟩
        have hb4' : Below w3.heap.size w3 w4 := (Below.refl _ _).drew.trans (hb4.mono (Below.refl w3.heap.size w3).drew.size)
        have hca : Fr (fun g => g = cb ∨ mb' = some g) w3 w4 := (Fr.refl (fun g => g = cb ∨ mb' = some g) w3).then_below hb4'
        have hr4 := hr3.trans (hb4'.mono hr3.size)
        have HT4 := HT0.out.below hb4'
        have hby : By w4 (fun _ => True) A4 l4 := Rd.of_own ho4 (fun _ _ _ => trivial)
        have hsl : l4.length ≤ 4096 := by rw [hl4.out]; exact hsm
        have HL4 := Lib.hid (show getL (plainL La') (pL x) = ((getL (plainL La') (pL x)).1, l4) by rw [hl4.out])
        clear ho4 hb4 hl4 hsm
        refine ⟨_, rfl, _, (by (simp only [Act.put, List.setIfInBounds_toArray, List.set_cons_zero, List.set_cons_succ]; rfl)), ?_⟩
        refine mx_call (hca) (by kernel_rfl) ?_ (setO_any cb mb' Lb' x (getL (plainL La') (pL x)).1 A4 c4 l4 (fun _ => True) w4 HT4.b hby hpx (by omega)) ?_
        · (go_simp; done)
        rintro e w5 ⟨rfl, hto⟩
        have hcb : Fr (fun g => g = cb ∨ mb' = some g) w3 w5 := hca.trans hto.fr (fun _ _ h => h)
        obtain ⟨m', L', hT5, hL5, _⟩ := HT4.swap.set hr4.size hto
        have HL5 : Hid (plainL L' = setS (plainL Lb') (pL x) (getL (plainL La') (pL x))) := Lib.hid (by rw [HL4.out]; exact hL5.out)
        clear hto hL5 HT4 hby hsl
        refine ⟨_, rfl, _, (by (simp only [Act.put, List.setIfInBounds_toArray, List.set_cons_zero, List.set_cons_succ]; rfl)), ?_⟩
        refine mx_assign _ (by kernel_rfl) rfl ⟨_, (by ((try simp [go_sem]); (try rfl); done)), _, (by (simp only [Act.put, List.setIfInBounds_toArray, List.set_cons_zero, List.set_cons_succ]; rfl)), ?_⟩
        refine mx_end hcb ?_
        have hw5 := hr3.trans ((hcb.below (B := w.heap.size) hr3.size (fun g hg e => by have := HT0.out.lb g e; omega)))
        obtain ⟨f, hf⟩ : ∃ f, f = mayS (plainL Lb') (pL x) ((getL (plainL La') (pL x)).1, l4) := ⟨_, rfl⟩
        rw [← hf]
        have HF : Hid (f = mayS (plainL Lb') (pL x) (getL (plainL La') (pL x))) := Lib.hid (by rw [← HL4.out] at hf; exact hf)
        clear hf hca hcb HL4 bc n1 q0 q1 q2 q3 q4 q5 q6 q7 q8
        by_cases hf0 : f = 0
        · subst hf0
          go_wp2_with fail
          go_roundw
          case rel => exact ⟨i + 1, ma', La', m', L', hlt, by go_num, hT5.swap, Lib.hid (by rw [HRX.out, HST.out, if_pos HF.out.symm, HL5.out]), hw5⟩
          case measure => simp [intOf]; omega
        · have hfb : (f != 0) = true := by simpa using hf0
          have HFN := Lib.hid hf0
          clear hf0
          go_wp2_with fail
          go_ret3
          have hRf : R = (stepO (plainL La') (plainL Lb') x) := by rw [HRX.out, HST.out, if_neg (by rw [← HF.out]; exact HFN.out)]
          have hR2 : R.2.2 = f := by rw [hRf, HST.out, HF.out]
          exact ⟨R, Lib.hid rfl, hw5, .inr ⟨by rw [hR2]; exact HFN.out, by rw [hR2]; rfl⟩⟩
      · by_cases hv2 : v = 2
        · subst hv2
          have HST : Hid (stepO (plainL La') (plainL Lb') x = (setS (plainL La') (pL x) (getL (plainL Lb') (pL x)), plainL Lb', mayS (plainL La') (pL x) (getL (plainL Lb') (pL x)))) := Lib.hid (by unfold stepO; rw [if_neg (by rw [← hv]; decide), if_pos hv.symm])
          rw [← hv] at q8
          clear hv
          have hsm := hT.b.getSmall (pL x)
          have HT0 := Lib.hid hT
          have HG := Lib.hid (fun W (hW : Below w3.heap.size w3 W) => getO_any cb mb' Lb' x W (hT.b.below hW) hpx)
          have n1 := hna
          clear hT hna hnb
          go_wp2_with fail
          refine wp_region_p [(0, true), (1, true), (2, true), (3, true), (4, true), (5, true), (6, false), (7, false), (8, true)] (fun W => Fr (fun g => g = ca ∨ ma' = some g) w3 W) (by kernel_rfl) (by kernel_rfl) ?_
          simp only [List.map_cons, List.map_nil, List.filterMap_cons, List.filterMap_nil, List.getElem?_cons_zero, List.getElem?_cons_succ, List.length_cons, List.length_nil, Nat.zero_add, Nat.reduceAdd, List.drop_succ_cons, List.drop_zero]
          refine mx_move _ (by kernel_rfl) rfl ⟨_, (by ((try simp [go_sem]); (try rfl); done)), _, (by (simp only [Act.put, List.setIfInBounds_toArray, List.set_cons_zero, List.set_cons_succ]; rfl)), ?_⟩
          refine mx_val (by kernel_rfl) ⟨_, (by (intro w' hC; clear hC; (try go_simp); (try with_reducible rfl); done)), _, (by (simp only [Act.put, List.setIfInBounds_toArray, List.set_cons_zero, List.set_cons_succ]; rfl)), ?_⟩
          refine mx_val (by kernel_rfl) ⟨_, (by (intro w' hC; (obtain ⟨q0, q1, q2, q3, q4, q5, q6, q7, q8⟩ := cells9 (bc.fr hC n1)); clear hC; (try go_simp); (try with_reducible rfl); done)), _, (by (simp only [Act.put, List.setIfInBounds_toArray, List.set_cons_zero, List.set_cons_succ]; rfl)), ?_⟩
          refine mx_move _ (by kernel_rfl) rfl ⟨_, (by ((try simp [go_sem]); (try rfl); done)), _, (by (simp only [Act.put, List.setIfInBounds_toArray, List.set_cons_zero, List.set_cons_succ]; rfl)), ?_⟩
          refine mx_val (by kernel_rfl) ⟨_, (by (intro w' hC; clear hC; (try go_simp); (try with_reducible rfl); done)), _, (by (simp only [Act.put, List.setIfInBounds_toArray, List.set_cons_zero, List.set_cons_succ]; rfl)), ?_⟩
          refine mx_val (by kernel_rfl) ⟨_, (by (intro w' hC; (obtain ⟨q0, q1, q2, q3, q4, q5, q6, q7, q8⟩ := cells9 (bc.fr hC n1)); clear hC; (try go_simp); (try with_reducible rfl); done)), _, (by (simp only [Act.put, List.setIfInBounds_toArray, List.set_cons_zero, List.set_cons_succ]; rfl)), ?_⟩
          refine mx_call ((Fr.refl _ _).drew) (by kernel_rfl) ?_ (HG.out _ (Below.refl _ _).drew) ?_
          · (go_simp; done)
          rintro e w4 ⟨A4, c4, l4, rfl, hl4, ho4, hb4⟩
          have hb4' : Below w3.heap.size w3 w4 := (Below.refl _ _).drew.trans (hb4.mono (Below.refl w3.heap.size w3).drew.size)
          have hca : Fr (fun g => g = ca ∨ ma' = some g) w3 w4 := (Fr.refl (fun g => g = ca ∨ ma' = some g) w3).then_below hb4'
          have hr4 := hr3.trans (hb4'.mono hr3.size)
          have HT4 := HT0.out.below hb4'
          have hby : By w4 (fun _ => True) A4 l4 := Rd.of_own ho4 (fun _ _ _ => trivial)
          have hsl : l4.length ≤ 4096 := by rw [hl4.out]; exact hsm
          have HL4 := Lib.hid (show getL (plainL Lb') (pL x) = ((getL (plainL Lb') (pL x)).1, l4) by rw [hl4.out])
          clear ho4 hb4 hl4 hsm
          refine ⟨_, rfl, _, (by (simp only [Act.put, List.setIfInBounds_toArray, List.set_cons_zero, List.set_cons_succ]; rfl)), ?_⟩
          refine mx_call (hca) (by kernel_rfl) ?_ (setO_any ca ma' La' x (getL (plainL Lb') (pL x)).1 A4 c4 l4 (fun _ => True) w4 HT4.a hby hpx (by omega)) ?_
          · (go_simp; done)
          rintro e w5 ⟨rfl, hto⟩
          have hcb : Fr (fun g => g = ca ∨ ma' = some g) w3 w5 := hca.trans hto.fr (fun _ _ h => h)
          obtain ⟨m', L', hT5, hL5, _⟩ := HT4.set hr4.size hto
          have HL5 : Hid (plainL L' = setS (plainL La') (pL x) (getL (plainL Lb') (pL x))) := Lib.hid (by rw [HL4.out]; exact hL5.out)
          clear hto hL5 HT4 hby hsl
          refine ⟨_, rfl, _, (by (simp only [Act.put, List.setIfInBounds_toArray, List.set_cons_zero, List.set_cons_succ]; rfl)), ?_⟩
          refine mx_assign _ (by kernel_rfl) rfl ⟨_, (by ((try simp [go_sem]); (try rfl); done)), _, (by (simp only [Act.put, List.setIfInBounds_toArray, List.set_cons_zero, List.set_cons_succ]; rfl)), ?_⟩
          refine mx_end hcb ?_
          have hw5 := hr3.trans ((hcb.below (B := w.heap.size) hr3.size (fun g hg e => by have := HT0.out.la g e; omega)))
          obtain ⟨f, hf⟩ : ∃ f, f = mayS (plainL La') (pL x) ((getL (plainL Lb') (pL x)).1, l4) := ⟨_, rfl⟩
          rw [← hf]
          have HF : Hid (f = mayS (plainL La') (pL x) (getL (plainL Lb') (pL x))) := Lib.hid (by rw [← HL4.out] at hf; exact hf)
          clear hf hca hcb HL4 bc n1 q0 q1 q2 q3 q4 q5 q6 q7 q8
          by_cases hf0 : f = 0
          · subst hf0
            go_wp2_with fail
            go_roundw
            case rel => exact ⟨i + 1, m', L', mb', Lb', hlt, by go_num, hT5, Lib.hid (by rw [HRX.out, HST.out, if_pos HF.out.symm, HL5.out]), hw5⟩
            case measure => simp [intOf]; omega
          · have hfb : (f != 0) = true := by simpa using hf0
            have HFN := Lib.hid hf0
            clear hf0
            go_wp2_with fail
            go_ret3
            have hRf : R = (stepO (plainL La') (plainL Lb') x) := by rw [HRX.out, HST.out, if_neg (by rw [← HF.out]; exact HFN.out)]
            have hR2 : R.2.2 = f := by rw [hRf, HST.out, HF.out]
            exact ⟨R, Lib.hid rfl, hw5, .inr ⟨by rw [hR2]; exact HFN.out, by rw [hR2]; rfl⟩⟩
        · have e1 : (v == 1) = false := by simpa using hv1
          have e2 : (v == 2) = false := by simpa using hv2
          have HST : Hid (stepO (plainL La') (plainL Lb') x = (plainL La', plainL Lb', 0)) := Lib.hid (by unfold stepO; rw [if_neg (by rw [← hv]; exact hv1), if_neg (by rw [← hv]; exact hv2)])
          rw [← hv] at q8
          clear hv hv1 hv2
          have HT0 := Lib.hid hT
          clear hT
          go_wp2_with fail
          go_roundw
          case rel => exact ⟨i + 1, ma', La', mb', Lb', hlt, by go_num, HT0.out, Lib.hid (by rw [HRX.out, HST.out]; rfl), hr3⟩
          case measure => simp [intOf]; omega
    · have e : i = l.length := by omega
      subst e
      have HR0 : Hid (R = (plainL La', plainL Lb', 0)) := Lib.hid (by rw [hRi.out, List.drop_length]; rfl)
      have HT0 := Lib.hid hT
      clear hRi hT HTW hw2
      go_wp2_with fail
      go_ret3
      refine ⟨R, Lib.hid rfl, hb, .inl ⟨by rw [HR0.out], ca, ma', La', cb, mb', Lb', rfl, HT0.out.a, HT0.out.b, ?_, ?_⟩⟩
      · show _ = _; rw [HR0.out]
      · show _ = _; rw [HR0.out]

end Go.Proofs.Ytkeledbgmpienaa

/- tenderref28: Apply. -/
namespace Go.Proofs.Ytkeledbgmpienaa
open Go.RowKit Go.WideShapes Go.ChangeShapes Go.ChangeAt Go.Maps

theorem bv_nil (w : World) (Z : Nat → Prop) : BV.ok w Z ⟨none, 0, []⟩ := ⟨Rd.nil, by simp, by simp [maxLen]⟩
theorem refGetO_any (A : Option Addr) (c : Nat) (L : List (List UInt8 × LV)) (x : CV) (w : World) (h : Its w A L) (hp : x.p.size ≤ 1048576) :
    Calls Try.prog 33 #[.slice A L.length c, .string x.p] w fun e w' => ∃ (bA : Option Addr) (bc : Nat) (bl : List UInt8), e = .returned (.agg #[.int .i64 (getL (plainL L) (pL x)).1, .slice bA bl.length bc]) ∧ Hid (bl = (getL (plainL L) (pL x)).2) ∧ BV.ok w' (fun _ => True) ⟨bA, bc, bl⟩ ∧ bl.length ≤ 140737488355328 ∧ Below w.heap.size w w' := by
  have hl : (pL x).length ≤ 1048576 := by unfold pL; rw [Array.length_toList]; exact hp
  refine (refGet08_any A c L (pL x) w h (by omega)).mono ?_
  rintro e w' ⟨rfl, hb⟩
  rw [getL_plain]
  rcases hq : getR L (pL x) with _ | o
  · exact ⟨none, 0, [], rfl, Lib.hid rfl, bv_nil _ _, by simp, hb⟩
  · have hm := getR_mem hq
    exact ⟨o.x.A, o.x.c, o.x.l, rfl, Lib.hid rfl, (h.ok _ hm).below hb, (h.txt _ hm).2, hb⟩
theorem refSetO_any (A : Option Addr) (c : Nat) (L : List (List UInt8 × LV)) (x : CV) (k : Int) (bA : Option Addr) (bc : Nat) (bl : List UInt8) (w : World) (h : Its w A L) (hok : TreeOk (plainL L)) (hy : BV.ok w (fun _ => True) ⟨bA, bc, bl⟩) (hp : x.p.size ≤ 1048576) (hn : bl.length ≤ 140737488355328) :
    Calls Try.prog 29 #[.slice A L.length c, .string x.p, .agg #[.int .i64 k, .slice bA bl.length bc]] w fun e w' => ∃ (A' : Option Addr) (c' : Nat) (l' : List (List UInt8 × LV)), e = .returned (.tuple #[.slice A' l'.length c', .int .i64 (mayS (plainL L) (pL x) (k, bl))]) ∧ Hid (plainL l' = setS (plainL L) (pL x) (k, bl)) ∧ Its w' A' l' ∧ Below w.heap.size w w' := by
  refine (refSet_any A c L (pL x) k bA bc bl w h hok hy (by unfold pL; rw [Array.length_toList]; exact hp) hn).mono ?_
  rintro e w' ⟨A', c', l', rfl, hl, hI, hb⟩
  refine ⟨A', c', l', rfl, ?_, hI, hb⟩
  show _ = _
  rw [hl.out]; exact plain_step L (pL x) ⟨k, ⟨bA, bc, bl⟩⟩

set_option maxRecDepth 100000 in
set_option maxHeartbeats 2000000 in
theorem orderApplyR_any (A0 : Option Addr) (c0 : Nat) (La : List (List UInt8 × LV)) (B0 : Option Addr) (d0 : Nat) (Lb : List (List UInt8 × LV)) (A : Option Addr) (c : Nat) (l : List CV) (Z : Nat → Prop) (w : World) (ha : Its w A0 La) (hb : Its w B0 Lb) (hoa : TreeOk (plainL La)) (hob : TreeOk (plainL Lb)) (h : Rd w Z 9 A l.length (l.flatMap CV.cells)) (hp : ∀ x ∈ l, x.p.size ≤ 1048576) (hl : l.length ≤ 1000) :
    Calls Try.prog 15 #[.slice A0 La.length c0, .slice B0 Lb.length d0, .slice A l.length c] w fun e w' => ∃ R, Hid (R = applyO (plainL La) (plainL Lb) l) ∧ Below w.heap.size w w' ∧ ((R.2.2 = 0 ∧ ∃ A1 c1 Ka B1 d1 Kb, e = .returned (.tuple #[.slice A1 Ka.length c1, .slice B1 Kb.length d1, .int .i64 0]) ∧ Its w' A1 Ka ∧ Its w' B1 Kb ∧ Hid (plainL Ka = R.1) ∧ Hid (plainL Kb = R.2.1)) ∨ (R.2.2 ≠ 0 ∧ e = .returned (.tuple #[.slice none 0 0, .slice none 0 0, .int .i64 R.2.2]))) := by
  have HRS := Lib.hid h
  have HP := Lib.hid hp
  have HB := Lib.hid hb
  have HA := Lib.hid ha
  have HOA := Lib.hid hoa
  have HOB := Lib.hid hob
  obtain ⟨R, hR⟩ : ∃ R, R = applyO (plainL La) (plainL Lb) l := ⟨_, rfl⟩
  have HR := Lib.hid hR
  rw [← hR]
  clear h hp hb ha hR hoa hob
  go_enter Try.func15, Try.ntmps15
  go_wp2_with fail
  go_loopw [0, 1, 9] (fun av bv iv wr => ∃ (i : Nat) (A1 : Option Addr) (c1 : Nat) (La' : List (List UInt8 × LV)) (B1 : Option Addr) (d1 : Nat) (Lb' : List (List UInt8 × LV)), i ≤ l.length ∧ av = .slice A1 La'.length c1 ∧ bv = .slice B1 Lb'.length d1 ∧ iv = .int .i64 (i : Int) ∧ Its wr A1 La' ∧ Its wr B1 Lb' ∧ Hid (TreeOk (plainL La')) ∧ Hid (TreeOk (plainL Lb')) ∧ Hid (R = applyO (plainL La') (plainL Lb') (l.drop i)) ∧ Below w.heap.size w wr) (fun _ _ iv _ => l.length - (intOf iv).toNat)
  case atStart => exact ⟨0, A0, c0, La, B0, d0, Lb, Nat.zero_le _, rfl, rfl, rfl, HA.out, HB.out, HOA, HOB, HR, Below.refl _ _⟩
  case round =>
    obtain ⟨i, A1, c1, La', B1, d1, Lb', hi, rfl, rfl, rfl, hIA, hIB, hoa, hob, hRi, hb⟩ := hrel
    have HIA := Lib.hid hIA
    have HIB := Lib.hid hIB
    clear hIA hIB
    by_cases hlt : i < l.length
    · have HRX := Lib.hid (hRi.out.trans (applyO_drop (plainL La') (plainL Lb') l i hlt))
      obtain ⟨b, off, rfl, _, hbb, at1⟩ := ch_at (HRS.out.below hb) hlt
      have hpx := HP.out l[i] (List.getElem_mem hlt)
      obtain ⟨x, hx⟩ : ∃ x, x = l[i] := ⟨_, rfl⟩
      rw [← hx] at at1 HRX hpx
      obtain ⟨a0, a1, a2, a3, a4, a5, a6, a7, a8⟩ := at1
      clear hx hRi a1 a2 a3 a4 a5 a6 a7
      obtain ⟨v, hv⟩ : ∃ v, v = x.v := ⟨_, rfl⟩
      by_cases hv1 : v = 1
      · subst hv1
        have HST : Hid (stepO (plainL La') (plainL Lb') x = (plainL La', setS (plainL Lb') (pL x) (getL (plainL La') (pL x)), mayS (plainL Lb') (pL x) (getL (plainL La') (pL x)))) := Lib.hid (by unfold stepO; rw [if_pos hv.symm])
        rw [← hv] at a8
        clear hv
        go_wp2_with fail
        refine (refGetO_any A1 c1 La' x wr HIA.out hpx).mono ?_
        rintro e w4 ⟨A4, c4, l4, rfl, hl4, ho4, hsl, hb4⟩
        have hr4 := hb.trans (hb4.mono hb.size)
        have HL4 := Lib.hid (show getL (plainL La') (pL x) = ((getL (plainL La') (pL x)).1, l4) by rw [hl4.out])
        have HO4 := Lib.hid ho4
        have HB4 := Lib.hid hb4
        clear ho4 hl4 hb4
        obtain ⟨k4, hk4⟩ : ∃ k4, k4 = (getL (plainL La') (pL x)).1 := ⟨_, rfl⟩
        rw [← hk4] at HL4 ⊢
        clear hk4
        go_wp2_with fail
        refine (refSetO_any B1 d1 Lb' x k4 A4 c4 l4 w4 (HIB.out.below HB4.out) hob.out HO4.out hpx hsl).mono ?_
        rintro e w5 ⟨B5, d5, L5, rfl, hL5, hI5, hb5⟩
        have hw5 := hr4.trans (hb5.mono hr4.size)
        have hb35 : Below wr.heap.size wr w5 := HB4.out.trans (hb5.mono HB4.out.size)
        have HI5 := Lib.hid hI5
        have HL5 : Hid (plainL L5 = setS (plainL Lb') (pL x) (getL (plainL La') (pL x))) := Lib.hid (by rw [HL4.out]; exact hL5.out)
        have HO5 : Hid (TreeOk (plainL L5)) := Lib.hid (by rw [hL5.out]; exact hob.out.set _ _)
        obtain ⟨f, hf⟩ : ∃ f, f = mayS (plainL Lb') (pL x) (k4, l4) := ⟨_, rfl⟩
        rw [← hf]
        have HF : Hid (f = mayS (plainL Lb') (pL x) (getL (plainL La') (pL x))) := Lib.hid (by rw [HL4.out]; exact hf)
        clear hf hL5 hI5 hb5 HO4 HL4
        replace a8 := cellAt hb35 hbb a8
        by_cases hf0 : f = 0
        · subst hf0
          go_wp2_with fail
          go_roundw
          case rel => exact ⟨i + 1, A1, c1, La', B5, d5, L5, hlt, rfl, rfl, by go_num, HIA.out.below hb35, HI5.out, hoa, HO5, Lib.hid (by rw [HRX.out, HST.out, if_pos HF.out.symm, HL5.out]), hw5⟩
          case measure => simp [intOf]; omega
        · have hfb : (f != 0) = true := by simpa using hf0
          have HFN := Lib.hid hf0
          clear hf0
          go_wp2_with fail
          go_ret3
          have hRf : R = (stepO (plainL La') (plainL Lb') x) := by rw [HRX.out, HST.out, if_neg (by rw [← HF.out]; exact HFN.out)]
          have hR2 : R.2.2 = f := by rw [hRf, HST.out, HF.out]
          exact ⟨R, Lib.hid rfl, hw5, .inr ⟨by rw [hR2]; exact HFN.out, by rw [hR2]; rfl⟩⟩
      · by_cases hv2 : v = 2
        · subst hv2
          have HST : Hid (stepO (plainL La') (plainL Lb') x = (setS (plainL La') (pL x) (getL (plainL Lb') (pL x)), plainL Lb', mayS (plainL La') (pL x) (getL (plainL Lb') (pL x)))) := Lib.hid (by unfold stepO; rw [if_neg (by rw [← hv]; decide), if_pos hv.symm])
          rw [← hv] at a8
          clear hv
          go_wp2_with fail
          refine (refGetO_any B1 d1 Lb' x wr HIB.out hpx).mono ?_
          rintro e w4 ⟨A4, c4, l4, rfl, hl4, ho4, hsl, hb4⟩
          have hr4 := hb.trans (hb4.mono hb.size)
          have HL4 := Lib.hid (show getL (plainL Lb') (pL x) = ((getL (plainL Lb') (pL x)).1, l4) by rw [hl4.out])
          have HO4 := Lib.hid ho4
          have HB4 := Lib.hid hb4
          clear ho4 hl4 hb4
          obtain ⟨k4, hk4⟩ : ∃ k4, k4 = (getL (plainL Lb') (pL x)).1 := ⟨_, rfl⟩
          rw [← hk4] at HL4 ⊢
          clear hk4
          go_wp2_with fail
          refine (refSetO_any A1 c1 La' x k4 A4 c4 l4 w4 (HIA.out.below HB4.out) hoa.out HO4.out hpx hsl).mono ?_
          rintro e w5 ⟨B5, d5, L5, rfl, hL5, hI5, hb5⟩
          have hw5 := hr4.trans (hb5.mono hr4.size)
          have hb35 : Below wr.heap.size wr w5 := HB4.out.trans (hb5.mono HB4.out.size)
          have HI5 := Lib.hid hI5
          have HL5 : Hid (plainL L5 = setS (plainL La') (pL x) (getL (plainL Lb') (pL x))) := Lib.hid (by rw [HL4.out]; exact hL5.out)
          have HO5 : Hid (TreeOk (plainL L5)) := Lib.hid (by rw [hL5.out]; exact hoa.out.set _ _)
          obtain ⟨f, hf⟩ : ∃ f, f = mayS (plainL La') (pL x) (k4, l4) := ⟨_, rfl⟩
          rw [← hf]
          have HF : Hid (f = mayS (plainL La') (pL x) (getL (plainL Lb') (pL x))) := Lib.hid (by rw [HL4.out]; exact hf)
          clear hf hL5 hI5 hb5 HO4 HL4
          replace a8 := cellAt hb35 hbb a8
          by_cases hf0 : f = 0
          · subst hf0
            go_wp2_with fail
            go_roundw
            case rel => exact ⟨i + 1, B5, d5, L5, B1, d1, Lb', hlt, rfl, rfl, by go_num, HI5.out, HIB.out.below hb35, HO5, hob, Lib.hid (by rw [HRX.out, HST.out, if_pos HF.out.symm, HL5.out]), hw5⟩
            case measure => simp [intOf]; omega
          · have hfb : (f != 0) = true := by simpa using hf0
            have HFN := Lib.hid hf0
            clear hf0
            go_wp2_with fail
            go_ret3
            have hRf : R = (stepO (plainL La') (plainL Lb') x) := by rw [HRX.out, HST.out, if_neg (by rw [← HF.out]; exact HFN.out)]
            have hR2 : R.2.2 = f := by rw [hRf, HST.out, HF.out]
            exact ⟨R, Lib.hid rfl, hw5, .inr ⟨by rw [hR2]; exact HFN.out, by rw [hR2]; rfl⟩⟩
        · have e1 : (v == 1) = false := by simpa using hv1
          have e2 : (v == 2) = false := by simpa using hv2
          have HST : Hid (stepO (plainL La') (plainL Lb') x = (plainL La', plainL Lb', 0)) := Lib.hid (by unfold stepO; rw [if_neg (by rw [← hv]; exact hv1), if_neg (by rw [← hv]; exact hv2)])
          rw [← hv] at a8
          clear hv hv1 hv2
          go_wp2_with fail
          go_roundw
          case rel => exact ⟨i + 1, A1, c1, La', B1, d1, Lb', hlt, rfl, rfl, by go_num, HIA.out, HIB.out, hoa, hob, Lib.hid (by rw [HRX.out, HST.out]; rfl), hb⟩
          case measure => simp [intOf]; omega
    · have e : i = l.length := by omega
      subst e
      have HR0 : Hid (R = (plainL La', plainL Lb', 0)) := Lib.hid (by rw [hRi.out, List.drop_length]; rfl)
      clear hRi
      go_wp2_with fail
      go_ret3
      refine ⟨R, Lib.hid rfl, hb, .inl ⟨by rw [HR0.out], A1, c1, La', B1, d1, Lb', rfl, HIA.out, HIB.out, ?_, ?_⟩⟩
      · show _ = _; rw [HR0.out]
      · show _ = _; rw [HR0.out]

end Go.Proofs.Ytkeledbgmpienaa
