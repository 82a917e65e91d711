/- tree.Tree.Clone, New without items. -/
import Derived.Test.YtedbjkmgfcnkeaaGreatA07
import Derived.ChangeMaps5
import Derived.Lib.SlicesCompact
import Derived.Shelf.Small.Bits
import Derived.Sort.OwnSorted
import Derived.Lib.SlBytesConst

namespace Go.Proofs.YtedbjkmgfcnkeaaGreat
open Go.RowKit Go.Maps Go.Shelf

theorem MapAt.clone {b : Nat} {L : List (List UInt8 × Value)} {w : World} (h : MapAt w Tryz.prog 9 b L) :
    Calls Tryz.prog 33 #[.map (some b)] w fun e w' => e = .returned (.map (some w.heap.size)) ∧ MapAt w' Tryz.prog 9 w.heap.size L ∧ Below w.heap.size w w' := by
  obtain ⟨D, h1, h2⟩ := h.own
  have := AnyW.maps_Clone_owns Tryz.cloneM 9 heldR b L.length D w h1
  change Calls Tryz.prog 33 _ _ _ at this
  refine this.mono ?_
  rintro e w' ⟨rfl, k1, k2, k3⟩
  exact ⟨rfl, ⟨h.sort, ⟨D, k1, h2⟩, h.len⟩, k3⟩
theorem mapClone_nil (w : World) : Calls Tryz.prog 33 #[.map none] w fun e w' => e = .returned (.map none) ∧ w' = w := AnyW.maps_Clone_nil Tryz.cloneM w
/-- a clone: the same, at blocks of its own -/
theorem treeClone_any (tb : Nat) (mo : Option Nat) (L : List (List UInt8 × LV)) (w : World) (h : TreeAt w tb mo L) :
    Calls Tryz.prog 14 #[.pointer (some ⟨tb, 0, none⟩)] w fun e w' => ∃ (cb : Nat) (mo' : Option Nat), e = .returned (.pointer (some ⟨cb, 0, none⟩)) ∧ w.heap.size ≤ cb ∧ (∀ m, mo' = some m → w.heap.size ≤ m) ∧ TreeAt w' cb mo' L ∧ Below w.heap.size w w' := by
  have HT := Lib.hid h
  have c0 := h.c0
  rcases h.map with ⟨rfl, rfl⟩ | ⟨mb, rfl, hm⟩
  · clear h
    go_enter Tryz.func14, Tryz.ntmps14
    go_wp2_with fail
    refine (mapClone_nil _).mono ?_
    rintro e w1 ⟨rfl, rfl⟩
    go_wp2_with fail
    go_ret
    exact ⟨_, none, rfl, Nat.le_refl _, by simp, TreeAt.new _, (by repeat (first | exact Below.refl _ _ | refine Below.alloc ?_ (by simp) _ | refine Below.setCell ?_ (by simp) _ | refine Below.drew ?_))⟩
  · clear h
    have HM := Lib.hid hm
    clear hm
    go_enter Tryz.func14, Tryz.ntmps14
    go_wp2_with fail
    refine HM.out.clone.mono ?_
    rintro e w1 ⟨rfl, hm1, hb1⟩
    have hT1 := HT.out.below hb1
    have hs1 := hb1.size
    have hlt := hm1.lt
    have ba : Below w.heap.size w (w1.alloc (.cells #[.map (some w.heap.size)] 84)) := hb1.alloc hs1 _
    have bb : Below w1.heap.size w1 (w1.alloc (.cells #[.map (some w.heap.size)] 84)) := (Below.refl _ w1).alloc (Nat.le_refl _) _
    have HN : Hid (TreeAt (w1.alloc (.cells #[.map (some w.heap.size)] 84)) w1.heap.size (some w.heap.size) L) := by
      refine ⟨Blk.new _ _ _, .inr ⟨_, rfl, hm1.below bb⟩, fun x hx => ?_, HT.out.plain⟩
      exact OwB.below (HT.out.own x hx) ba
    clear hT1 hm1
    go_wp2_with fail
    go_ret
    exact ⟨_, some w.heap.size, rfl, hs1, fun m e => by injection e with e; omega, HN.out, ba⟩
end Go.Proofs.YtedbjkmgfcnkeaaGreat

/- api.Leaf: as an argument. -/
namespace Go.Proofs.YtedbjkmgfcnkeaaGreat
open Go.RowKit Go.WideShapes Go.ChangeShapes Go.ChangeAt Go.Deep Go.Joins

section
variable {H : Type} {enc : TypeId × Value → H} {w : World} {spare : Nat → Bool} {held : Bool}
/-- what is known of a leaf -/
structure LV.okAt (w : World) (Z : Nat → Prop) (o : LV) : Prop where
  x : o.x.ok w Z
  len : o.x.l.length ≤ 140737488355328
  k : -9223372036854775808 ≤ o.k ∧ o.k < 9223372036854775808
theorem list2 {α : Type} {l : List α} (h : l.length = 2) : ∃ a0 a1, l = [a0, a1] := by
  match l, h with
  | [a0, a1], _ => exact ⟨_, _, rfl⟩
set_option maxRecDepth 100000 in
theorem open_leaf {n : Nat} {cs : List Value} {x : DataW H × List MemPlace} (h : DataW.trod enc Tryz.prog w 0 spare held n 49 cs = some x) (hw : Within 49 x) :
    ∃ o : LV, cs = o.cells ∧ o.okAt w (fun b => b < w.heap.size) := by
  obtain ⟨ys, n', hcl, hyl, hf⟩ := open_st Tryz.underlying49 (by kernel_rfl) h (by kernel_rfl) hw
  obtain ⟨a0, a1, rfl⟩ := list2 hcl
  obtain ⟨y0, y1, rfl⟩ := list2 hyl
  obtain ⟨k, e, _, wk⟩ := DataW.trod_int Tryz.underlying3 (hf 0 _ _ _ rfl rfl rfl).1
  obtain rfl := List.singleton_inj.1 e
  obtain ⟨b, rfl, hb, hbl⟩ := open_bv (hf 1 _ _ _ rfl rfl rfl).1 (hf 1 _ _ _ rfl rfl rfl).2
  have bk := i64_bd wk
  exact ⟨⟨k, b⟩, rfl, hb, hbl, bk⟩
set_option maxRecDepth 100000 in
theorem open_leafv {r : Reach} {b0 : Nat} {v : Value} {d : DataW H} {p : List MemPlace} (hv : Value.okWide Tryz.prog w r b0 49 v) (h : DataW.Trod enc Tryz.prog w 0 spare held 49 v d p) (hw : Within 49 (d, p)) :
    ∃ o : LV, v = .agg #[.int .i64 o.k, .slice o.x.A o.x.l.length o.x.c] ∧ o.okAt w (fun b => b < w.heap.size) := by
  obtain ⟨cs, rfl, hsz⟩ := okWide_struct Tryz.underlying49 hv
  obtain ⟨l⟩ := cs
  obtain ⟨n, hn⟩ := h
  obtain ⟨o, e, ho⟩ := open_leaf (cs := l) hn hw
  subst e
  exact ⟨o, rfl, ho⟩
end
end Go.Proofs.YtedbjkmgfcnkeaaGreat

/- api.Item in slices: as an argument. -/
namespace Go.Proofs.YtedbjkmgfcnkeaaGreat
open Go.RowKit Go.WideShapes Go.ChangeShapes Go.ChangeAt Go.ChangeMaps Go.Deep Go.Joins

/-- items as they come in -/
structure ItA (w : World) (A : Option Addr) (L : List (List UInt8 × LV)) : Prop where
  rd : Rd w (fun b => b < w.heap.size) 3 A L.length (L.flatMap itemC)
  ok : ∀ x ∈ L, x.2.okAt w (fun b => b < w.heap.size) ∧ x.1.length ≤ 140737488355328
  len : L.length ≤ 140737488355328
section
variable {H : Type} {enc : TypeId × Value → H} {w : World} {spare : Nat → Bool} {held : Bool}
/-- a struct of fields of any number of cells -/
theorem open_sti {t : TypeId} {fs : Array Field} {N : Nat} (hs : Tryz.prog.underlying t = some (.struct fs)) {n : Nat} {cs : List Value} {x : DataW H × List MemPlace} (h : DataW.trod enc Tryz.prog w 0 spare held n t cs = some x) (hC : Tryz.prog.cellsOf t = N) (hw : Within t x) :
    ∃ (ys : List (DataW H × List MemPlace)) (n' : Nat), cs.length = N ∧ ys.length = fs.size ∧
      ∀ (j : Nat) (f : Field) (y : DataW H × List MemPlace), fs[j]? = some f → ys[j]? = some y → DataW.trod enc Tryz.prog w 0 spare held n' f.type ((cs.drop f.offset).take (Tryz.prog.cellsOf f.type)) = some y ∧ Within f.type y := by
  obtain ⟨xs, n', _, hx, hl, hlen, hg⟩ := DataW.trod_struct hs h
  rw [hC] at hl
  refine ⟨xs, n', hl, hlen, fun j f y hj hy => ⟨by rw [hg j f hj, hy], fun k hk => hw k ?_⟩⟩
  rw [hx]
  simp only [DataW.weights, hs]
  refine DataW.weights_mem_each (j := j) (t := f.type) (d := y.1) ?_ ?_ k hk
  · rw [List.getElem?_map]
    have : fs.toList[j]? = some f := by simpa using hj
    rw [this]; rfl
  · rw [List.getElem?_map, hy]; rfl
theorem list3i {α : Type} {l : List α} (h : l.length = 3) : ∃ a0 a1 a2, l = [a0, a1, a2] := by
  match l, h with
  | [a0, a1, a2], _ => exact ⟨_, _, _, rfl⟩
theorem str_withini {b : List UInt8} {p : List MemPlace} (hw : Within 9 ((DataW.lit (Lit.string b) : DataW H), p)) : b.length ≤ 140737488355328 := by
  have h1 := hw b.length (by simp [DataW.weights])
  have h2 := reachBytes_lt
  omega
set_option maxRecDepth 100000 in
theorem open_item {n : Nat} {cs : List Value} {x : DataW H × List MemPlace} (h : DataW.trod enc Tryz.prog w 0 spare held n 51 cs = some x) (hw : Within 51 x) :
    ∃ o : List UInt8 × LV, cs = itemC o ∧ o.2.okAt w (fun b => b < w.heap.size) ∧ o.1.length ≤ 140737488355328 := by
  obtain ⟨ys, n', hcl, hyl, hf⟩ := open_sti (N := 3) Tryz.underlying51 h (by kernel_rfl) hw
  obtain ⟨a0, a1, a2, rfl⟩ := list3i hcl
  obtain ⟨y0, y1, rfl⟩ := list2 hyl
  obtain ⟨f0, w0⟩ := hf 0 _ _ rfl rfl
  obtain ⟨f1, w1⟩ := hf 1 _ _ rfl rfl
  have c0 : Tryz.prog.cellsOf 9 = 1 := by kernel_rfl
  have c1 : Tryz.prog.cellsOf 49 = 2 := by kernel_rfl
  replace f0 : DataW.trod enc Tryz.prog w 0 spare held n' 9 (([a0, a1, a2].drop 0).take (Tryz.prog.cellsOf 9)) = some y0 := f0
  replace f1 : DataW.trod enc Tryz.prog w 0 spare held n' 49 (([a0, a1, a2].drop 1).take (Tryz.prog.cellsOf 49)) = some y1 := f1
  rw [c0] at f0
  rw [c1] at f1
  obtain ⟨p, e, hx0, _⟩ := DataW.trod_string Tryz.underlying9 f0
  obtain ⟨o, e2, ho⟩ := open_leaf f1 w1
  obtain rfl : a0 = .string p := by simpa using e
  obtain ⟨k, xx⟩ := o
  obtain ⟨rfl, rfl⟩ : a1 = .int .i64 k ∧ a2 = .slice xx.A xx.l.length xx.c := by simpa [LV.cells] using e2
  rw [hx0] at w0
  exact ⟨(p.data.toList, ⟨k, xx⟩), rfl, ho, str_withini w0⟩
set_option maxRecDepth 100000 in
theorem open_items {n : Nat} {v : Value} {x : DataW H × List MemPlace} (h : DataW.trod enc Tryz.prog w 0 spare held n 22 [v] = some x) (hw : Within 22 x) :
    ∃ (A : Option Addr) (c : Nat) (l : List (List UInt8 × LV)), v = .slice A l.length c ∧ ItA w A l := by
  obtain ⟨A, c, l, rfl, _, _, h3, h4, h5⟩ := open_sl (w := w) (enc := enc) (spare := spare) (held := held) itemC (fun o => o.2.okAt w (fun b => b < w.heap.size) ∧ o.1.length ≤ 140737488355328) 3 48 (t := 22) (e := 51) Tryz.underlying22 (by kernel_rfl) (by kernel_rfl) (by omega) (fun n cs x hx hx2 => open_item hx hx2) h hw
  refine ⟨A, c, l, rfl, h3, h4, ?_⟩
  have := reachBytes_lt
  omega
end
end Go.Proofs.YtedbjkmgfcnkeaaGreat

/- What trees keep while items are set, plainly; what a tree's writes leave. -/
namespace Go.Proofs.YtedbjkmgfcnkeaaGreat
open Go.RowKit Go.Maps

theorem par_under {q : List UInt8} (h : (parT q).2 = true) : underB q (parT q).1 = true := by
  unfold parT at h ⊢
  split at h
  · rename_i hc
    rw [if_pos hc]
    simp only [Bool.and_eq_true, decide_eq_true_eq] at hc
    obtain ⟨hg, hl⟩ := hc
    have h1 : (cutL q).dropLast ≠ [] := by intro e; have := congrArg List.length e; rw [List.length_dropLast] at this; simp at this; omega
    have h2 := cut_paste (cutL q).dropLast h1 (fun y hy => cut_no q y ((List.dropLast_sublist _).subset hy))
    have hne : cutL q ≠ [] := fun e => by rw [e] at hl; simp at hl
    have h3 : preB q (pasteL (cutL q).dropLast) = true := (preB_iff _ _).2 ⟨[(cutL q).getLast hne], by simp, by rw [h2, List.dropLast_concat_getLast hne]⟩
    show underB q (pasteL (cutL q).dropLast) = true
    unfold underB
    rw [hg, good_pre hg h3, h3]; rfl
  · simp at h
theorem under_irr (p : List UInt8) : underB p p = false := by
  rcases h : underB p p with _ | _
  · rfl
  · have := (under_order (b := p) h).1
    rw [cmpT_self] at this
    omega
/-- above each path that has a leaf stands a Dir -/
def DirsOk (T : List (List UInt8 × LP)) : Prop := ∀ x ∈ T, (parT x.1).2 = true → kindL (getR T (parT x.1).1) = 2
theorem DirsOk.nil : DirsOk [] := by simp [DirsOk]
theorem DirsOk.set {T : List (List UInt8 × LP)} (h : DirsOk T) (p : List UInt8) (l : LP) : DirsOk (setS T p l) := by
  unfold setS
  split
  · rename_i hm
    unfold mayS at hm
    split at hm
    · simp at hm
    · split at hm
      · rename_i hc; exact absurd hm hc
      · split at hm
        · simp at hm
        · rename_i hb
          have hbe : l.1 ≠ 2 → ∀ x ∈ T, underB x.1 p = false := fun h2 x hx => by
            rcases hu : underB x.1 p with _ | _
            · rfl
            · refine absurd ⟨h2, ?_⟩ hb
              intro e
              have : x.1 ∈ (keysR T).filter fun q => underB q p := List.mem_filter.2 ⟨List.mem_map.2 ⟨x, hx, rfl⟩, hu⟩
              rw [e] at this
              cases this
          unfold doS
          split
          · rename_i h0
            intro x hx hp
            have hxT := (List.mem_filter.1 hx).1
            have h1 := h x hxT hp
            rw [getR_without, if_neg]
            · exact h1
            · intro e
              have h2 := par_under hp
              rw [e, hbe (by omega) x hxT] at h2
              cases h2
          · rename_i h0
            rw [if_neg h0] at hm
            split at hm
            · simp at hm
            · rename_i hk
              intro x hx hp
              unfold putR at hx
              rcases mem_ins.1 hx with rfl | hx
              · dsimp only at hp ⊢
                have h1 : kindL (getR T (parT p).1) = 2 := by
                  by_cases e : kindL (getR T (parT p).1) = 2
                  · exact e
                  · exact absurd ⟨hp, e⟩ hk
                rw [getR_put, if_neg]
                · exact h1
                · intro e
                  have h2 := par_under hp
                  rw [e, under_irr] at h2
                  cases h2
              · have hxT := (List.mem_filter.1 hx).1
                have h1 := h x hxT hp
                rw [getR_put]
                split
                · rename_i e
                  by_cases h2 : l.1 = 2
                  · show l.1 = 2
                    exact h2
                  · have h3 := par_under hp
                    rw [e, hbe h2 x hxT] at h3
                    cases h3
                · exact h1
  · exact h
/-- one item behind the other set -/
def playS (T : List (List UInt8 × LP)) (l : List (List UInt8 × LP)) : List (List UInt8 × LP) := l.foldl (fun T x => setS T x.1 x.2) T
theorem play_snoc (T l : List (List UInt8 × LP)) (x : List UInt8 × LP) : playS T (l ++ [x]) = setS (playS T l) x.1 x.2 := by simp [playS]
theorem play_ok (T l : List (List UInt8 × LP)) (h : TreeOk T) : TreeOk (playS T l) := by
  induction l generalizing T with
  | nil => exact h
  | cons x l ih => exact ih _ (h.set x.1 x.2)
theorem play_dirs (T l : List (List UInt8 × LP)) (h : DirsOk T) : DirsOk (playS T l) := by
  induction l generalizing T with
  | nil => exact h
  | cons x l ih => exact ih _ (h.set x.1 x.2)
/-- the reference's step, plainly -/
theorem plain_step (L : List (List UInt8 × LV)) (p : List UInt8) (v : LV) : plainL (if mayS (plainL L) p v.p = 0 then putI L p v else L) = setS (plainL L) p v.p := by
  unfold setS
  split
  · unfold putI doS
    show plainL (if v.k = 0 then _ else _) = if v.k = 0 then _ else _
    split
    · exact plain_without L p
    · exact plain_put L p v
  · rfl

/-- what is read at cells that are no maps does not lie in the tree's own blocks -/
theorem TreeAt.apart {w : World} {tb : Nat} {mo : Option Nat} {K : List (List UInt8 × LV)} (t : TreeAt w tb mo K) {Z : Nat → Prop} {size n : Nat} {A : Option Addr} {xs : List Value} (h : Rd w Z size A n xs) (hx : ∀ u ∈ xs, ∀ m, u ≠ .map m) : Rd w (fun b => Z b ∧ b ≠ tb ∧ mo ≠ some b) size A n xs := by
  refine ⟨h.1, fun hn => ?_⟩
  obtain ⟨b, off, e, hz, hlt, hc⟩ := h.2 hn
  refine ⟨b, off, e, ?_, hlt, hc⟩
  have h0 : 0 < xs.length := by rw [h.1]; exact hn
  have hc0 := hc 0 _ (List.getElem?_eq_getElem h0)
  have hne := hx _ (List.getElem_mem h0)
  refine ⟨hz, fun eb => ?_, fun em => ?_⟩
  · subst eb
    rw [t.blk.cell] at hc0
    rcases Nat.eq_zero_or_pos (off + 0) with h1 | h1
    · rw [h1] at hc0
      simp at hc0
      exact hne _ hc0.symm
    · rw [Array.getElem?_eq_none (by simp; omega)] at hc0; cases hc0
  · rcases t.map with ⟨e0, _⟩ | ⟨mb, e0, hm⟩
    · rw [e0] at em; cases em
    · rw [e0] at em
      injection em with em
      subst em
      obtain ⟨D, ⟨es, clock, h1, _⟩, _⟩ := hm.own
      simp [World.cell?, h1] at hc0
theorem bv_no_map (l : List UInt8) : ∀ u ∈ l.map bv, ∀ m, u ≠ .map m := by
  intro u hu m e
  obtain ⟨x, _, rfl⟩ := List.mem_map.1 hu
  simp [bv] at e
theorem item_no_map (L : List (List UInt8 × LV)) : ∀ u ∈ L.flatMap itemC, ∀ m, u ≠ .map m := by
  intro u hu m e
  obtain ⟨x, _, hx⟩ := List.mem_flatMap.1 hu
  subst e
  simp [itemC, stv] at hx
/-- rows of items stay, whatever is set on a tree -/
theorem Its.set {w w' : World} {A : Option Addr} {L K : List (List UInt8 × LV)} {tb : Nat} {mo : Option Nat} (h : Its w A L) (t : TreeAt w tb mo K) (k : Fr (fun g => g = tb ∨ mo = some g) w w') : Its w' A L := by
  refine ⟨((t.apart h.rd (item_no_map L)).fr k fun b _ hz e => ?_).mono (fun _ _ _ => trivial), fun x hx => ?_, h.len, h.txt⟩
  · exact e.elim hz.2.1 hz.2.2
  · have h1 := h.ok x hx
    exact ⟨((t.apart h1.1 (bv_no_map _)).fr k fun b _ hz e => e.elim hz.2.1 hz.2.2).mono (fun _ _ _ => trivial), h1.2⟩
theorem ItA.fr {w w' : World} {A : Option Addr} {L : List (List UInt8 × LV)} {S : Nat → Prop} (h : ItA w A L) (k : Fr S w w') (hS : ∀ b, b < w.heap.size → ¬ S b) : ItA w' A L := by
  refine ⟨(h.rd.fr k fun b hb _ => hS b hb).mono (fun b hb _ => hb), fun x hx => ?_, h.len⟩
  have h1 := h.ok x hx
  exact ⟨⟨(h1.1.x.fr k fun b hb _ => hS b hb).mono (fun b hb _ => hb), h1.1.len, h1.1.k⟩, h1.2⟩
theorem ItA.below {w w' : World} {A : Option Addr} {L : List (List UInt8 × LV)} (h : ItA w A L) (k : Below w.heap.size w w') : ItA w' A L := h.fr (Fr.of_below k (fun _ => False)) (fun _ _ h => h)
theorem ItA.at_ {w : World} {A : Option Addr} {L : List (List UInt8 × LV)} {i : Nat} (h : ItA w A L) (hi : i < L.length) :
    ∃ b off, A = some ⟨b, off, none⟩ ∧ b < w.heap.size ∧ w.cell? ⟨b, off + i * 3, none⟩ = some (stv L[i].1) ∧ w.cell? ⟨b, off + i * 3 + 1, none⟩ = some (.int .i64 L[i].2.k) ∧ w.cell? ⟨b, off + i * 3 + 2, none⟩ = some (.slice L[i].2.x.A L[i].2.x.l.length L[i].2.x.c) := by
  obtain ⟨b, off, hA, _, hb, hc⟩ := h.rd.2 (by omega)
  have hg : ∀ j, j < 3 → (L.flatMap itemC)[i * 3 + j]? = (itemC L[i])[j]? := fun j hj => flat_get (k := 3) item_len L i j hi hj
  refine ⟨b, off, hA, hb, hc _ _ (hg 0 (by omega)), ?_, ?_⟩
  · rw [Nat.add_assoc]; exact hc _ _ (hg 1 (by omega))
  · rw [Nat.add_assoc]; exact hc _ _ (hg 2 (by omega))
theorem item_at {w : World} {Z : Nat → Prop} {A : Option Addr} {L : List (List UInt8 × LV)} {i : Nat} (h : Rd w Z 3 A L.length (L.flatMap itemC)) (hi : i < L.length) :
    ∃ b off, A = some ⟨b, off, none⟩ ∧ b < w.heap.size ∧ w.cell? ⟨b, off + i * 3, none⟩ = some (stv L[i].1) ∧ w.cell? ⟨b, off + i * 3 + 1, none⟩ = some (.int .i64 L[i].2.k) ∧ w.cell? ⟨b, off + i * 3 + 2, none⟩ = some (.slice L[i].2.x.A L[i].2.x.l.length L[i].2.x.c) := by
  obtain ⟨b, off, hA, _, hb, hc⟩ := h.2 (by omega)
  have hg : ∀ j, j < 3 → (L.flatMap itemC)[i * 3 + j]? = (itemC L[i])[j]? := fun j hj => flat_get (k := 3) item_len L i j hi hj
  refine ⟨b, off, hA, hb, hc _ _ (hg 0 (by omega)), ?_, ?_⟩
  · rw [Nat.add_assoc]; exact hc _ _ (hg 1 (by omega))
  · rw [Nat.add_assoc]; exact hc _ _ (hg 2 (by omega))
end Go.Proofs.YtedbjkmgfcnkeaaGreat

/- tree.New. -/
namespace Go.Proofs.YtedbjkmgfcnkeaaGreat
open Go.RowKit Go.Maps

theorem treeNew_nil (w : World) :
    Calls Tryz.prog 26 #[.slice none 0 0] w fun e w' => e = .returned (.tuple #[.pointer (some ⟨w.heap.size, 0, none⟩), .int .i64 0]) ∧ TreeAt w' w.heap.size none [] ∧ Below w.heap.size w w' := by
  go_enter Tryz.func26, Tryz.ntmps26
  go_wp2_with fail
  go_loopw [12] (fun iv wr => iv = .int .i64 0 ∧ wr = w.alloc (.cells #[.map none] 84)) (fun _ _ => 0)
  case atStart => exact ⟨rfl, rfl⟩
  case round =>
    obtain ⟨rfl, rfl⟩ := hrel
    go_wp2_with fail
    go_ret2
    exact ⟨rfl, TreeAt.new _, (by repeat (first | exact Below.refl _ _ | refine Below.alloc ?_ (by simp) _ | refine Below.setCell ?_ (by simp) _ | refine Below.drew ?_))⟩
end Go.Proofs.YtedbjkmgfcnkeaaGreat

/- tenderlaw08: lives, Light. -/
namespace Go.Proofs.YtedbjkmgfcnkeaaGreat
open Go.RowKit Go.Maps

/-- are there few items, and small ones? -/
def bytesI (L : List (List UInt8 × LV)) : Nat := (L.map fun x => x.2.x.l.length).sum
def lightI (L : List (List UInt8 × LV)) : Bool := L.all (fun x => decide (x.1.length ≤ 200)) && (decide (L.length ≤ 200) && decide (bytesI L ≤ 20000))
theorem bytesI_take (L : List (List UInt8 × LV)) (i : Nat) (hi : i < L.length) : bytesI (L.take (i + 1)) = bytesI (L.take i) + L[i].2.x.l.length := by
  unfold bytesI
  rw [List.take_succ_eq_append_getElem hi, List.map_append, List.sum_append]
  simp
theorem bytesI_le (K : Nat) : ∀ (L : List (List UInt8 × LV)), (∀ o ∈ L, o.2.x.l.length ≤ K) → bytesI L ≤ L.length * K
  | [], _ => by simp [bytesI]
  | o :: l, h => by
    have h1 := h o (by simp)
    have h2 := bytesI_le K l (fun o ho => h o (by simp [ho]))
    simp only [bytesI, List.map_cons, List.sum_cons, List.length_cons, Nat.add_mul] at h2 ⊢
    omega
theorem bytesI_take_le (K : Nat) (l : List (List UInt8 × LV)) (i : Nat) (h : ∀ o ∈ l, o.2.x.l.length ≤ K) : bytesI (l.take i) ≤ i * K := by
  have h1 := bytesI_le K (l.take i) (fun o ho => h o (List.mem_of_mem_take ho))
  have h2 : (l.take i).length ≤ i := List.length_take_le _ _
  have h3 : (l.take i).length * K ≤ i * K := Nat.mul_le_mul_right _ h2
  omega
/-- the sum that Light has made: right while few have been seen -/
def SeenI (l : List (List UInt8 × LV)) (i : Nat) (s : Int) : Prop := i ≤ 400 → s = (bytesI (l.take i) : Int)
theorem seenI_step {l : List (List UInt8 × LV)} {i : Nat} {s : Int} (hs : SeenI l i s) (hi : i < l.length) (h : ∀ o ∈ l, o.2.x.l.length ≤ 140737488355328) : SeenI l (i + 1) (wrap64 (s + (l[i].2.x.l.length : Int))) := by
  intro hi2
  have e := hs (by omega)
  have h1 := bytesI_take_le 140737488355328 l (i + 1) h
  have h2 := bytesI_take l i hi
  have h3 : (i + 1) * 140737488355328 ≤ 401 * 140737488355328 := Nat.mul_le_mul_right _ (by omega)
  rw [h2] at h1 ⊢
  rw [e, IntWalk.wrap64_in _ ⟨by omega, by omega⟩]
  omega
theorem le_sum : ∀ (l : List Nat) (n : Nat), n ∈ l → n ≤ l.sum
  | [], _, h => by cases h
  | m :: l, n, h => by
    rw [List.sum_cons]
    rcases List.mem_cons.1 h with rfl | h
    · omega
    · have := le_sum l n h
      omega
theorem lightI_len {L : List (List UInt8 × LV)} (h : lightI L = true) : L.length ≤ 200 ∧ ∀ x ∈ L, x.1.length ≤ 200 ∧ x.2.x.l.length ≤ 20000 := by
  unfold lightI at h
  simp only [Bool.and_eq_true, decide_eq_true_eq, List.all_eq_true] at h
  refine ⟨h.2.1, fun x hx => ⟨h.1 x hx, ?_⟩⟩
  have h1 : x.2.x.l.length ≤ bytesI L := by
    unfold bytesI
    exact le_sum _ _ (List.mem_map.2 ⟨x, hx, rfl⟩)
  omega
set_option maxRecDepth 100000 in
set_option maxHeartbeats 400000 in
theorem lightI_any (A : Option Addr) (c : Nat) (l : List (List UInt8 × LV)) (w : World) (h : ItA w A l) :
    Calls Tryz.prog 6 #[.slice A l.length c] w fun e w' => e = .returned (.bool (lightI l)) ∧ Below w.heap.size w w' := by
  have hlen := h.len
  go_enter Tryz.func6, Tryz.ntmps6
  go_wp2_with fail
  go_loopw [3, 8] (fun sv iv wr => ∃ (i : Nat) (s : Int), i ≤ l.length ∧ iv = .int .i64 (i : Int) ∧ sv = .int .i64 s ∧ SeenI l i s ∧ (∀ x ∈ l.take i, x.1.length ≤ 200) ∧ Below w.heap.size w wr) (fun _ iv _ => l.length - (intOf iv).toNat)
  case atStart => exact ⟨0, 0, Nat.zero_le _, rfl, rfl, by intro _; simp [bytesI], by simp, Below.refl _ _⟩
  case round =>
    obtain ⟨i, s, hi, rfl, rfl, hs, hp, hb⟩ := hrel
    by_cases hlt : i < l.length
    · obtain ⟨b, off, rfl, hbb, hc0, hc1, hc2⟩ := (h.below hb).at_ hlt
      have hsz := hb.size
      have hok := h.ok _ (List.getElem_mem hlt)
      have hxl := hok.1.len
      have hpl := hok.2
      have hst := Lib.hid (seenI_step hs hlt (fun o ho => (h.ok o ho).1.len))
      have hmem := List.getElem_mem hlt
      have hp2 : l[i].1.length ≤ 200 → Hid (∀ x ∈ l.take (i + 1), x.1.length ≤ 200) := fun h2 => Lib.hid (by
        rw [List.take_succ_eq_append_getElem hlt]
        intro x hx
        rcases List.mem_append.1 hx with hx | hx
        · exact hp x hx
        · rw [List.mem_singleton.1 hx]; exact h2)
      have hno : ¬ l[i].1.length ≤ 200 → Hid (lightI l = false) := fun h2 => Lib.hid (by
        unfold lightI
        rw [Bool.and_eq_false_iff]
        refine .inl ?_
        rw [List.all_eq_false]
        exact ⟨_, hmem, by simpa using h2⟩)
      clear hok hmem hp
      generalize l[i] = o at *
      obtain ⟨p, k, xA, xc, xl⟩ := o
      simp only [stv] at *
      by_cases h2 : p.length ≤ 200
      · have hp3 := hp2 h2
        clear hp2 hno
        go_wp2_with fail
        go_roundw
        case rel => exact ⟨i + 1, _, hlt, by go_num, rfl, by have := hst.out; push_cast at this; exact this, hp3.out, (hb.alloc hsz _)⟩
        case measure => simp [intOf]; omega
      · have hn := hno h2
        clear hp2 hno
        go_wp2_with fail
        go_ret
        exact ⟨ret_b hn.out.symm, hb.alloc hsz _⟩
    · have e : i = l.length := by omega
      subst e
      rw [List.take_length] at hp
      have hall : l.all (fun x => decide (x.1.length ≤ 200)) = true := by simpa using hp
      have hli : Hid (lightI l = (decide (l.length ≤ 200) && decide (bytesI l ≤ 20000))) := Lib.hid (by unfold lightI; rw [hall]; simp)
      by_cases h2 : l.length ≤ 200
      · have hss := hs (by omega)
        rw [List.take_length] at hss
        subst hss
        clear hp hall
        go_wp2
        all_goals
          go_ret
          exact ⟨ret_b (by rw [hli.out, Bool.eq_iff_iff]; simp; omega), hb⟩
      · clear hp hall
        go_wp2
        all_goals
          go_ret
          exact ⟨ret_b (by rw [hli.out, Bool.eq_iff_iff]; simp; omega), hb⟩
end Go.Proofs.YtedbjkmgfcnkeaaGreat

/- Drawn regions in an order of ours: as Mix, but the operations are told in any order that the region may have. No program. -/
namespace Go.Proofs.YtedbjkmgfcnkeaaGreat
open Go.RowKit

section
variable {P : Program} {ops : Array Oper} {md : Region.Mode} {C : World → Prop}
def mixP (md : Region.Mode) (ops : Array Oper) (g m : Nat) : List (Nat × Bool) → Array Bool → Bool
  | [], listed => Region.seqB md ops g m listed
  | (k, true) :: ks, listed => decide (k < m) && (Region.ready md ops listed).contains k && Region.free md ops listed k && mixP md ops g m ks (listed.setIfInBounds k true)
  | (k, false) :: ks, listed => decide (k < m) && decide (Region.ready md ops listed = [k]) && mixP md ops g m ks (listed.setIfInBounds k true)
theorem mix_perm {m g : Nat} {Lq : Act → World → Prop} (hsel : ∀ (j : Nat) (o : Oper) cs b, ops[j]? = some o → o.op ≠ .select cs b) (hT : TailWaitsB md ops m) :
    ∀ (ks : List (Nat × Bool)) (l : List Oper) (listed : Array Bool) (a : Act) (w : World), l.map some = ks.map (fun x => ops[x.1]?) → HeadInv md ops m listed →
    mixP md ops g m ks listed = true → wpMix P ops C Lq (ks.map (·.2)) l a w →
    wpAnyT P md ops C m (fun listed' a' w' => Region.seqB md ops g m listed' = true ∧ Lq a' w') l.length listed a w
  | [], [], listed, a, w, _, _, hB, h => ⟨h.1, seqB_ready hB, hB, h.2⟩
  | (k, true) :: ks, o :: l, listed, a, w, hl, inv, hB, h => by
    simp only [List.map_cons, List.cons.injEq] at hl
    have h0 : ops[k]? = some o := hl.1.symm
    simp only [mixP, Bool.and_eq_true, decide_eq_true_eq] at hB
    obtain ⟨⟨⟨hkm, hr⟩, hf⟩, hB'⟩ := hB
    have hr' : k ∈ Region.ready md ops listed := by simpa using hr
    obtain ⟨v, hy, h'⟩ := h
    exact wpAnyT_first h0 hkm hsel hT _ listed a w inv (Region.free_spec h0 hf) hr' hy (mix_perm hsel hT ks l _ _ w hl.2 (inv.set hr' hkm) hB' h')
  | (k, false) :: ks, o :: l, listed, a, w, hl, inv, hB, h => by
    simp only [List.map_cons, List.cons.injEq] at hl
    have h0 : ops[k]? = some o := hl.1.symm
    simp only [mixP, Bool.and_eq_true, decide_eq_true_eq] at hB
    obtain ⟨⟨hkm, hr⟩, hB'⟩ := hB
    obtain ⟨hc, h'⟩ := h
    refine ⟨hc, fun h1 => (by rw [hr] at h1; cases h1), fun i hi => ?_⟩
    have hi' := hi
    rw [hr] at hi
    have hik : i = k := by simpa using hi
    subst hik
    refine ⟨hkm, ?_⟩
    have rec_ : ∀ a' w', wpMix P ops C Lq (ks.map (·.2)) l a' w' → wpAnyT P md ops C m (fun listed' a' w' => Region.seqB md ops g m listed' = true ∧ Lq a' w') l.length (listed.setIfInBounds i true) a' w' := fun a' w' h2 =>
      mix_perm hsel hT ks l _ a' w' hl.2 (inv.set hi' hkm) hB' h2
    unfold wpOp
    simp only [h0]
    rcases h' with ⟨hw, h'⟩ | ⟨hw, h'⟩
    · simp only [hw, if_true]
      exact .inl (Oper.wp_mono rec_ h')
    · simp only [hw, Bool.false_eq_true, if_false]
      exact rec_ _ _ h'
  | [], _ :: _, _, _, _, hl, _, _, _ => by simp at hl
  | (_, true) :: _, [], _, _, _, hl, _, _, _ => by simp at hl
  | (_, false) :: _, [], _, _, _, hl, _, _, _ => by simp at hl
theorem filterMap_some (l : List Oper) : ∀ (ks : List (Nat × Bool)), ks.all (fun x => decide (x.1 < l.length)) = true → (ks.filterMap fun x => l[x.1]?).map some = ks.map (fun x => l.toArray[x.1]?)
  | [], _ => rfl
  | x :: ks, h => by
    simp only [List.all_cons, Bool.and_eq_true, decide_eq_true_eq] at h
    have ih := filterMap_some l ks h.2
    rw [List.filterMap_cons, List.getElem?_eq_getElem h.1]
    simp only [List.map_cons]
    rw [ih, show l.toArray[x.1]? = some l[x.1] by simp [h.1]]
/-- the first operations in an order of ours, by kinds; the rest one behind the other -/
theorem wp_region_p {id : Nat} {Q : Exit → Act → World → Prop} {a : Act} {w : World} {l : List Oper} (ks : List (Nat × Bool)) (C : World → Prop) (hm : P.follows .mixedOrders = true)
    (hB : (ks.all (fun x => decide (x.1 < l.length)) && tailOkB l.toArray ks.length && mixP .any l.toArray (l.toArray.size - ks.length) ks.length ks (Array.replicate l.toArray.size false)) = true)
    (h : MixW P l.toArray C (fun a' w' => wpList P l.toArray Q (l.drop ks.length) a' w') (ks.map (·.2)) (ks.filterMap fun x => l[x.1]?) a w.drew) : (Code.region id l.toArray true).wp P Q a w := by
  rw [Bool.and_eq_true, Bool.and_eq_true] at hB
  obtain ⟨⟨hall, hok⟩, hlex⟩ := hB
  obtain ⟨hsel, hnl, hT⟩ := tailOkB_spec hok
  have hfm := filterMap_some l ks hall
  have hfl : (ks.filterMap fun x => l[x.1]?).length = ks.length := by simpa using congrArg List.length hfm
  have hdl : (l.drop ks.length).length = l.toArray.size - ks.length := by simp
  have H := mix_perm (P := P) (md := .any) (m := ks.length) (g := l.toArray.size - ks.length) (Region.noSelect_spec hsel) hT ks _ _ a w.drew hfm (inv_new ks.length) hlex h.go
  refine wp_region_any hm ?_
  have := wpAny_of_T (Q := Q) (g := l.toArray.size - ks.length) (fun listed a' w' hL => by
    have := wpAny_of_seq (md := .any) (Q' := Q) (l.drop ks.length) ks.length listed a' w' (fun j => by simp [List.getElem?_drop]) (by rw [hdl]; exact hL.1) hL.2
    rwa [hdl] at this) _ _ _ _ H
  rw [hfl, show ks.length + (l.toArray.size - ks.length) = l.toArray.size by simp at hnl ⊢; omega] at this
  exact this
end
end Go.Proofs.YtedbjkmgfcnkeaaGreat

/- tree.Diff, Same. -/
namespace Go.Proofs.YtedbjkmgfcnkeaaGreat
open Go.RowKit

/-- a tree, or none -/
def TreeP (w : World) (v : Option Addr) (L : List (List UInt8 × LV)) : Prop := (v = none ∧ L = []) ∨ ∃ tb mo, v = some ⟨tb, 0, none⟩ ∧ TreeAt w tb mo L
theorem TreeP.below {w w' : World} {v : Option Addr} {L : List (List UInt8 × LV)} (h : TreeP w v L) (k : Below w.heap.size w w') : TreeP w' v L := h.imp id fun ⟨tb, mo, e, ht⟩ => ⟨tb, mo, e, ht.below k⟩
theorem TreeP.ok {w : World} {v : Option Addr} {L : List (List UInt8 × LV)} (h : TreeP w v L) : TreeOk (plainL L) := by
  rcases h with ⟨_, rfl⟩ | ⟨tb, mo, _, ht⟩
  · exact TreeOk.nil
  · exact ht.plain
theorem treeget_nil (p : List UInt8) (w : World) : Calls Tryz.prog 53 #[.pointer none, .string ⟨⟨p⟩⟩] w fun e w' => e = .returned (leafO none) ∧ Below w.heap.size w w' := by
  unfold leafO
  go_enter Tryz.func53, Tryz.ntmps53
  go_wp2_with fail
  refine bodyPost_ret (v := .agg #[.int .i64 0, .slice none 0 0]) (by simp [results, Tryz.results53, go_sem]) rfl ?_
  exact ⟨rfl, (by repeat (first | exact Below.refl _ _ | refine Below.alloc ?_ (by simp) _ | refine Below.setCell ?_ (by simp) _ | refine Below.drew ?_))⟩
theorem treegetP_any (v : Option Addr) (L : List (List UInt8 × LV)) (p : List UInt8) (w : World) (h : TreeP w v L) (hp : p.length ≤ 140737488355328) :
    Calls Tryz.prog 53 #[.pointer v, .string ⟨⟨p⟩⟩] w fun e w' => e = .returned (leafO (getR L p)) ∧ Below w.heap.size w w' := by
  rcases h with ⟨rfl, rfl⟩ | ⟨tb, mo, rfl, ht⟩
  · exact treeget_nil p w
  · exact treeget_any tb mo L p w ht hp
theorem leafO_byT {w : World} {v : Option Addr} {L : List (List UInt8 × LV)} (h : TreeP w v L) (p : List UInt8) : ∃ (k : Int) (A' : Option Addr) (c : Nat) (l : List UInt8), leafO (getR L p) = .agg #[.int .i64 k, .slice A' l.length c] ∧ By w (fun _ => True) A' l ∧ Hid (at0 (plainL L) p = (k, l)) := by
  unfold at0
  rw [get_plain]
  rcases h with ⟨rfl, rfl⟩ | ⟨tb, mo, rfl, ht⟩
  · exact ⟨0, none, 0, [], rfl, Rd.nil, rfl⟩
  · rcases hg : getR L p with _ | ⟨k, A', c, l⟩
    · exact ⟨0, none, 0, [], rfl, Rd.nil, rfl⟩
    · exact ⟨k, A', c, l, rfl, (ht.ok _ (getR_mem hg)).1.mono (fun _ _ _ => trivial), rfl⟩
set_option maxHeartbeats 400000 in
theorem diff1_any (va vb : Option Addr) (L M : List (List UInt8 × LV)) (p : List UInt8) (xa xb : Nat) (w : World) (ha : TreeP w va L) (hb : TreeP w vb M) (hp : p.length ≤ 140737488355328) (hxa : Blk w xa 27 #[.pointer va]) (hxb : Blk w xb 27 #[.pointer vb]) :
    Calls Tryz.prog 68 #[.string ⟨⟨p⟩⟩, .pointer (some ⟨xa, 0, none⟩), .pointer (some ⟨xb, 0, none⟩)] w fun e w' => e = .returned (.bool (diffB (plainL L) (plainL M) p)) ∧ Below w.heap.size w w' := by
  obtain ⟨k1, A1, c1, l1, hv1, hy1, ha1⟩ := leafO_byT ha p
  obtain ⟨k2, A2, d2, l2, hv2, hy2, ha2⟩ := leafO_byT hb p
  have HG1 := Lib.hid (fun W (hW : Below w.heap.size w W) => treegetP_any va L p W (ha.below hW) hp)
  have HG2 := Lib.hid (fun W (hW : Below w.heap.size w W) => treegetP_any vb M p W (hb.below hW) hp)
  rw [hv1] at HG1
  rw [hv2] at HG2
  obtain ⟨sm, hsm⟩ : ∃ sm, sm = (k1 == k2 && l1 == l2) := ⟨_, rfl⟩
  have HG3 := Lib.hid (fun W (hW : Below w.heap.size w W) => leafSame_any k1 k2 A1 A2 c1 d2 l1 l2 _ _ W (hy1.below hW) (hy2.below hW))
  rw [← hsm] at HG3
  have hF : diffB (plainL L) (plainL M) p = !sm := by
    unfold diffB
    rw [ha1.out, ha2.out, hsm]
    rfl
  rw [hF]
  have q0 := Lib.hid hxa
  have q1 := Lib.hid hxb
  clear hF ha1 ha2 hsm hv1 hv2 hy1 hy2 ha hb hxa hxb
  go_enter Tryz.func68, Tryz.ntmps68
  go_wp2_with fail
  refine wp_region_b 9 (by kernel_rfl) (by kernel_rfl) ?_
  simp only [List.take_succ_cons, List.take_zero, List.drop_succ_cons, List.drop_zero]
  refine lb_val (by kernel_rfl) ⟨_, (by (intro w' hC; (have q := (q0.out.below hC).cell 0; simp at q); clear hC; (try go_simp); (try with_reducible rfl); done)), _, (by (simp only [Act.put, List.setIfInBounds_toArray, List.set_cons_zero, List.set_cons_succ]; rfl)), ?_⟩
  refine lb_move _ (by kernel_rfl) rfl ⟨_, (by ((try simp [go_sem]); (try rfl); done)), _, (by (simp only [Act.put, List.setIfInBounds_toArray, List.set_cons_zero, List.set_cons_succ]; rfl)), ?_⟩
  refine lb_call (by kernel_rfl) (fun w' hC => HG1.out w' hC) (by (intro w'; go_simp; done)) ⟨_, (by (simp only [Act.put, List.setIfInBounds_toArray, List.set_cons_zero, List.set_cons_succ]; rfl)), ?_⟩
  refine lb_val (by kernel_rfl) ⟨_, (by (intro w' hC; (have q := (q1.out.below hC).cell 0; simp at q); clear hC; (try go_simp); (try with_reducible rfl); done)), _, (by (simp only [Act.put, List.setIfInBounds_toArray, List.set_cons_zero, List.set_cons_succ]; rfl)), ?_⟩
  refine lb_move _ (by kernel_rfl) rfl ⟨_, (by ((try simp [go_sem]); (try rfl); done)), _, (by (simp only [Act.put, List.setIfInBounds_toArray, List.set_cons_zero, List.set_cons_succ]; rfl)), ?_⟩
  refine lb_call (by kernel_rfl) (fun w' hC => HG2.out w' hC) (by (intro w'; go_simp; done)) ⟨_, (by (simp only [Act.put, List.setIfInBounds_toArray, List.set_cons_zero, List.set_cons_succ]; rfl)), ?_⟩
  refine lb_call (by kernel_rfl) (fun w' hC => HG3.out w' hC) (by (intro w'; go_simp; done)) ⟨_, (by (simp only [Act.put, List.setIfInBounds_toArray, List.set_cons_zero, List.set_cons_succ]; rfl)), ?_⟩
  refine lb_val (by kernel_rfl) ⟨_, (by (intro w' hC; clear hC; (try go_simp); (try with_reducible rfl); done)), _, (by (simp only [Act.put, List.setIfInBounds_toArray, List.set_cons_zero, List.set_cons_succ]; rfl)), ?_⟩
  refine lb_assign _ (by kernel_rfl) rfl ⟨_, (by ((try simp [go_sem]); (try rfl); done)), _, (by (simp only [Act.put, List.setIfInBounds_toArray, List.set_cons_zero, List.set_cons_succ]; rfl)), ?_⟩
  refine .nil ?_
  intro w4 hb4
  go_wp2_with fail
  go_ret
  exact ⟨rfl, hb4⟩
end Go.Proofs.YtedbjkmgfcnkeaaGreat

/- What slices.Compact makes of a sorted row of texts: plain. -/
namespace Go.Proofs.YtedbjkmgfcnkeaaGreat
open Go.RowKit Go.Lib

theorem compact_spec (zs : List (List UInt8)) (hs : zs.Pairwise fun a b => leT a b = true) : ∀ m, m ≤ zs.length →
    (∀ x, x ∈ compactUpTo zs.toArray m ↔ x ∈ zs.take m) ∧ (compactUpTo zs.toArray m).Pairwise fun a b => leT a b = true ∧ a ≠ b
  | 0, _ => ⟨by simp [compactUpTo], by simp [compactUpTo]⟩
  | m + 1, hm => by
    obtain ⟨h1, h2⟩ := compact_spec zs hs m (by omega)
    rw [compactUpTo_succ]
    have hlt : m < zs.length := by omega
    have ht : zs.take (m + 1) = zs.take m ++ [zs[m]] := List.take_succ_eq_append_getElem hlt
    have hg : zs.toArray[m]! = zs[m] := by simp [hlt]
    have hle : ∀ x ∈ zs.take m, leT x zs[m] = true := by
      intro x hx
      have hp : (zs.take (m + 1)).Pairwise fun a b => leT a b = true := hs.sublist (List.take_sublist _ _)
      rw [ht] at hp
      exact (List.pairwise_append.1 hp).2.2 x hx _ (by simp)
    rw [hg]
    by_cases hk : keeps zs.toArray m = true
    · rw [if_pos hk]
      have hne : ∀ x ∈ zs.take m, x ≠ zs[m] := by
        intro x hx e
        have hm0 : 0 < m := by
          rcases Nat.eq_zero_or_pos m with rfl | h
          · simp at hx
          · exact h
        have hg1 : zs.toArray[m - 1]! = zs[m - 1] := by simp [show m - 1 < zs.length by omega]
        unfold keeps at hk
        rw [hg, hg1] at hk
        simp only [decide_eq_true_eq] at hk
        rcases hk with hk | hk
        · omega
        · obtain ⟨i, hi, rfl⟩ := List.getElem_of_mem hx
          rw [List.length_take] at hi
          rw [List.getElem_take] at e
          have e1 : leT zs[i] zs[m - 1] = true := by
            by_cases hi2 : i = m - 1
            · subst hi2
              have := leT_total zs[m - 1] zs[m - 1]
              simpa using this
            · exact List.pairwise_iff_getElem.1 hs i (m - 1) (by omega) (by omega) (by omega)
          have e2 : leT zs[m - 1] zs[m] = true := List.pairwise_iff_getElem.1 hs (m - 1) m (by omega) (by omega) (by omega)
          rw [e] at e1
          exact hk (leT_anti _ _ e1 e2)
      refine ⟨fun x => ?_, ?_⟩
      · rw [ht, List.mem_append, List.mem_append, h1]
      · rw [List.pairwise_append]
        refine ⟨h2, by simp, fun a ha b hb => ?_⟩
        rw [List.mem_singleton.1 hb]
        have ha' := (h1 a).1 ha
        exact ⟨hle a ha', hne a ha'⟩
    · rw [if_neg hk, List.append_nil]
      refine ⟨fun x => ?_, h2⟩
      rw [ht, List.mem_append, h1]
      refine ⟨.inl, fun h => h.elim id fun h => ?_⟩
      rw [List.mem_singleton.1 h]
      unfold keeps at hk
      simp only [decide_eq_true_eq, not_or, Classical.not_not] at hk
      have hg1 : zs.toArray[m - 1]! = zs[m - 1] := by simp [show m - 1 < zs.length by omega]
      rw [hg, hg1] at hk
      rw [hk.2]
      have : zs[m - 1] = (zs.take m)[m - 1]'(by rw [List.length_take]; omega) := by rw [List.getElem_take]
      rw [this]
      exact List.getElem_mem _
/-- two rows of paths, sorted, each once: the paths of both -/
theorem compact_union (ss ts : List (List UInt8)) {α : Type} {U : List (List UInt8 × α)} (hU : SortR U) (f : List UInt8 → Bool) (hm : ∀ k, k ∈ ss ++ ts ↔ (k ∈ keysR U ∧ f k = true)) : compact ((ss ++ ts).mergeSort leT) = (keysR U).filter f := by
  have hso : ((ss ++ ts).mergeSort leT).Pairwise fun a b => leT a b = true := List.pairwise_mergeSort leT_trans leT_total _
  obtain ⟨h1, h2⟩ := compact_spec _ hso _ (Nat.le_refl _)
  rw [List.take_length] at h1
  have hnd : (compact ((ss ++ ts).mergeSort leT)).Nodup := by
    rw [List.nodup_iff_pairwise_ne]
    exact h2.imp fun h => h.2
  have hmm : ∀ k, k ∈ compact ((ss ++ ts).mergeSort leT) ↔ (k ∈ keysR U ∧ f k = true) := by
    intro k
    rw [← hm k]
    exact (h1 k).trans (List.mergeSort_perm _ _).mem_iff
  have hp : (compact ((ss ++ ts).mergeSort leT)).Perm ((keysR U).filter f) := (List.perm_ext_iff_of_nodup hnd (hU.nodup.filter _)).2 fun k => by rw [hmm, List.mem_filter]
  exact List.Perm.eq_of_pairwise (le := fun a b => leT a b = true) (fun a b _ _ h1 h2 => leT_anti a b h1 h2) (h2.imp fun h => h.1) (hU.keys.filter _) hp
end Go.Proofs.YtedbjkmgfcnkeaaGreat

/- slices.SortFunc of texts by name.Compare: a row of the call's own, in the paths' order. -/
namespace Go.Proofs.YtedbjkmgfcnkeaaGreat
open Go.Shelf Go.RowKit Go.Lib Go.Sort

/-- a text that is no longer than a text may be -/
abbrev TxtB := { l : List UInt8 // l.length ≤ 9223372036854775807 }
instance : Inhabited TxtB := ⟨⟨[], by simp⟩⟩
def txtV (x : TxtB) : Value := .string ⟨⟨x.1⟩⟩
def cmpX (x y : TxtB) : Int := cmpT x.1 y.1

section
variable {α : Type} [Inhabited α] {enc : α → Value}
theorem heap_sortedG {w : World} {g n : Nat} {os : Array Obj} {cur : Array Value} {e : TypeId} {fr : Nat × Nat} (d : Array α) (hb : w.heap[g]? = some (.cells cur e fr)) :
    (grow (putRow enc (Sort.ahead w n) g 0 d) os).heap[g]? = some (.cells (putCells enc 0 d cur) e fr) := by
  have hg : g < w.heap.size := (Array.getElem?_eq_some_iff.1 hb).1
  rw [heap_grow_old _ _ (by simpa using hg)]
  simp [putRow, mapBlock, Sort.ahead, Array.getElem?_modify, hb, onCells]
theorem grownBy_sortedG {w : World} {g n : Nat} {os : Array Obj} (d : Array α) : w.grownBy (grow (putRow enc (Sort.ahead w n) g 0 d) os) (some g) := by
  refine ⟨rfl, rfl, rfl, by simp, fun k hk hne => ?_⟩
  rw [heap_grow_old _ _ (by simpa using hk)]
  have : g ≠ k := fun e => hne (by rw [e])
  simp [putRow, mapBlock, Sort.ahead, Array.getElem?_modify, this]
theorem take_putCellsG (cur : Array Value) (ts : List α) (h : ts.length ≤ cur.size) : (putCells enc 0 ts.toArray cur).toList.take ts.length = ts.map enc := by
  apply List.ext_getElem?
  intro j
  by_cases hj : j < ts.length
  · rw [List.getElem?_take_of_lt hj, Array.getElem?_toList]
    simp [putCells, hj, show j < cur.size by omega]
  · rw [List.getElem?_take_eq_none (by omega), List.getElem?_eq_none (by simp; omega)]
theorem ownsRow_sortedG {w : World} {base g cap n : Nat} {e : TypeId} {os : Array Obj} {cur : Array Value} {ss ts : List α} (hl : ts.length = ss.length) (hbase : base ≤ g) (hb : w.heap[g]? = some (.cells cur e (0, 0)))
    (h1 : ss.length ≤ cap) (h2 : cap ≤ maxLen) (h3 : cur.size = cap * 1) :
    (grow (putRow enc (Sort.ahead w n) g 0 ts.toArray) os).ownsRow base e 1 (.slice (some ⟨g, 0, none⟩) ss.length cap) ss.length (ts.map enc) :=
  ⟨by simp [hl], .inr ⟨g, cap, _, rfl, hbase, heap_sortedG _ hb, h1, h2, by simp [putCells, h3], by rw [Nat.mul_one, ← hl]; exact take_putCellsG cur ts (by omega)⟩⟩
theorem holds_of_blockG {w : World} {g : Nat} {cur : Array Value} {e : TypeId} {ss : List α} (hb : w.heap[g]? = some (.cells cur e (0, 0))) (ht : cur.toList.take ss.length = ss.map enc) : Holds enc w g 0 ss.toArray := by
  intro j hj
  have hj' : j < ss.length := by simpa using hj
  refine ⟨?_, by simp [World.frozen?, hb]⟩
  have h1 : (cur.toList.take ss.length)[j]? = (ss.map enc)[j]? := by rw [ht]
  rw [List.getElem?_take_of_lt hj'] at h1
  simp only [World.cell?, hb, Nat.zero_add]
  simp only [Option.isSome_none, Bool.false_eq_true, if_false]
  rw [← Array.getElem?_toList, h1]
  simp [hj']
end
theorem cmpX_lt (x y : TxtB) : ltOf cmpX x y = decide (cmpT x.1 y.1 < 0) := rfl
theorem swoX : SWO (ltOf cmpX) where
  irrefl x := by rw [cmpX_lt, cmpT_self]; simp
  trans x y z h1 h2 := by
    rw [cmpX_lt] at *
    simp only [decide_eq_true_eq] at *
    exact ordT.trans _ _ _ h1 h2
  ntrans x y z h1 h2 := by
    rw [cmpX_lt] at *
    have := leT_trans z.1 y.1 x.1 (by simpa [leT] using h2) (by simpa [leT] using h1)
    simpa [leT] using this
theorem totX (x y : TxtB) (h1 : ltOf cmpX x y = false) (h2 : ltOf cmpX y x = false) : x = y := by
  rw [cmpX_lt] at *
  exact Subtype.ext (leT_anti x.1 y.1 (by simpa [leT] using h2) (by simpa [leT] using h1))
theorem cmpReadsX (blk off size : Nat) (w : World) : CmpReads Tryz.prog 49 #[] txtV cmpX blk off size w := by
  intro m os dk _ x y
  refine (compare_any ⟨⟨x.1⟩⟩ ⟨⟨y.1⟩⟩ x.2 y.2 _).mono ?_
  rintro e w' ⟨rfl, hq⟩
  exact ⟨rfl, hq⟩
theorem txts : ∀ (ss : List (List UInt8)), (∀ x ∈ ss, x.length ≤ 140737488355328) → ∃ ts : List TxtB, ts.map Subtype.val = ss
  | [], _ => ⟨[], rfl⟩
  | x :: ss, h => by
    obtain ⟨ts, e⟩ := txts ss (fun y hy => h y (by simp [hy]))
    exact ⟨⟨x, by have := h x (by simp); omega⟩ :: ts, by rw [List.map_cons, e]⟩
set_option maxHeartbeats 1000000 in
/-- a row of texts is sorted by name.Compare -/
theorem sortsT : SortsT := by
  intro base A c ss w hown hl hss
  obtain ⟨ts, hts⟩ := txts ss hl
  have hlen : ts.length = ss.length := by rw [← hts, List.length_map]
  have hmv : ss.map stv = ts.map txtV := by rw [← hts, List.map_map]; rfl
  rcases hown.2 with ⟨hnil, h0⟩ | ⟨g, cap, cur, hv, hbase, hb, h1, h2, h3, h4⟩
  · obtain ⟨rfl, hl0, rfl⟩ : A = none ∧ ss.length = 0 ∧ c = 0 := by simpa using hnil
    obtain rfl : ss = [] := List.eq_nil_of_length_eq_zero hl0
    have hcon := AnyF.slices_SortFunc_none { Tryz.sortT with } none 0 (.func (.func 49) #[] #[]) w
    change Calls Tryz.prog 70 _ _ _ at hcon
    refine hcon.mono ?_
    rintro e w' ⟨rfl, rfl⟩
    exact ⟨rfl, by simpa using hown, World.grownBy.refl _ _⟩
  · obtain ⟨rfl, rfl⟩ : A = some ⟨g, 0, none⟩ ∧ c = cap := by simpa using hv
    have eg : ∀ args w, (callFunc 49 args).run Tryz.prog w = .ok (.enter 49 args) w := enters_of Tryz.func49 (by kernel_rfl) rfl
    have hglt : g < w.heap.size := (Array.getElem?_eq_some_iff.1 hb).1
    have hH : Holds txtV w g 0 ts.toArray := holds_of_blockG hb (by rw [hlen, ← hmv]; simpa using h4)
    have hbig : ss.length < 4611686018427387904 := by omega
    have hcon := Any.slices_SortFunc_total Tryz.sortT txtV (fun _ => rfl) cmpX swoX 49 #[] g 0 c ts.toArray w eg (cmpReadsX g 0 ts.toArray.size w).lays hH hglt (by simpa [hlen] using hbig) totX
    change Calls Tryz.prog 70 _ _ _ at hcon
    rw [show ts.toArray.size = ss.length by simp [hlen]] at hcon
    refine hcon.mono ?_
    rintro e w' ⟨rfl, n, os, rfl⟩
    have hms : (ts.mergeSort fun x y => !(ltOf cmpX) y x).map Subtype.val = ss.mergeSort leT := by
      rw [← hts]
      exact List.map_mergeSort (fun a _ b _ => rfl)
    refine ⟨rfl, ?_, ?_⟩
    · have := ownsRow_sortedG (enc := txtV) (n := n) (os := os) (ts := ts.mergeSort fun x y => !(ltOf cmpX) y x) (ss := ts) (by rw [List.length_mergeSort]) hbase hb (by omega) h2 h3
      rw [hlen] at this
      have e2 : (ss.mergeSort leT).map stv = (ts.mergeSort fun x y => !(ltOf cmpX) y x).map txtV := by rw [← hms, List.map_map]; rfl
      rw [e2]
      exact this
    · exact grownBy_sortedG _
end Go.Proofs.YtedbjkmgfcnkeaaGreat

/- slices.Compact of a sorted row of texts of the call's own. -/
namespace Go.Proofs.YtedbjkmgfcnkeaaGreat
open Go.Shelf Go.RowKit Go.Lib Go.Sort

theorem own_cut {w : World} {base : Nat} {e : TypeId} {size n c : Nat} {A : Option Addr} {xs : List Value} (h : w.ownsRow base e size (.slice A n c) n xs) (k : Nat) (hk : k ≤ n) (hA : A = none → k = 0) : w.ownsRow base e size (.slice A k c) k (xs.take (k * size)) := by
  have hkn : k * size ≤ n * size := Nat.mul_le_mul_right _ hk
  refine ⟨by rw [List.length_take, h.1]; omega, ?_⟩
  rcases h.2 with ⟨hv, h0⟩ | ⟨g, cap, cur, hv, hb, hg, h1, h2, h3, h4⟩
  · injection hv with e1 e2 e3
    subst e1 e3
    have : k = 0 := by omega
    subst this
    exact .inl ⟨rfl, rfl⟩
  · injection hv with e1 e2 e3
    subst e1 e3
    exact .inr ⟨g, c, cur, rfl, hb, hg, by omega, h2, h3, by rw [← h4, List.take_take]; congr 1; omega⟩
theorem compactT_any (base : Nat) (A : Option Addr) (c : Nat) (ss : List (List UInt8)) (w : World) (hown : w.ownsRow base 9 1 (.slice A ss.length c) ss.length (ss.map stv)) (hss : ss.length ≤ 1099511627776) :
    Calls Tryz.prog 71 #[.slice A ss.length c] w fun e w' => e = .returned (.slice A (compact ss).length c) ∧ w'.ownsRow base 9 1 (.slice A (compact ss).length c) (compact ss).length ((compact ss).map stv) ∧ w.grownBy w' (ablk A) := by
  rcases hown.2 with ⟨hnil, h0⟩ | ⟨g, cap, cur, hv, hbase, hb, h1, h2, h3, h4⟩
  · obtain ⟨rfl, hl0, rfl⟩ : A = none ∧ ss.length = 0 ∧ c = 0 := by simpa using hnil
    obtain rfl : ss = [] := List.eq_nil_of_length_eq_zero hl0
    refine (Tryz.slices_Compact_string_empty none 0 w).mono ?_
    rintro e w' ⟨rfl, rfl⟩
    exact ⟨rfl, by simpa [compact, compactUpTo] using hown, World.grownBy.refl _ _⟩
  · obtain ⟨rfl, rfl⟩ : A = some ⟨g, 0, none⟩ ∧ c = cap := by simpa using hv
    have hH : Holds encStr w g 0 ss.toArray := holds_of_blockG hb (by rw [Nat.mul_one] at h4; exact h4)
    refine (Tryz.slices_Compact_string g 0 c ss w hH (by omega) h1).mono ?_
    rintro e w' ⟨rfl, n, rfl⟩
    have hle := compact_length_le ss
    have hl2 : (compact ss ++ List.replicate (ss.length - (compact ss).length) ([] : List UInt8)).length = ss.length := by simp; omega
    refine ⟨rfl, ?_, ?_⟩
    · have := ownsRow_sortedG (enc := encStr) (n := n) (os := #[]) (ts := compact ss ++ List.replicate (ss.length - (compact ss).length) ([] : List UInt8)) (ss := ss) hl2 hbase hb h1 h2 h3
      have h5 := own_cut this (compact ss).length hle (by simp)
      rw [List.map_append, List.take_append_of_le_length (by simp), List.take_of_length_le (by simp)] at h5
      exact h5
    · exact grownBy_sortedG (os := #[]) _
end Go.Proofs.YtedbjkmgfcnkeaaGreat

/- tree.Diff: the walk. -/
namespace Go.Proofs.YtedbjkmgfcnkeaaGreat
open Go.RowKit Go.Lib

theorem union_keys (ps : List (List UInt8)) : SortR (unionR ps) ∧ ∀ k, k ∈ keysR (unionR ps) ↔ k ∈ ps := by
  have : ∀ (qs : List (List UInt8)) (T : List (List UInt8 × LV)), SortR T → SortR (qs.foldl (fun T p => putR T p dirV) T) ∧ ∀ k, k ∈ keysR (qs.foldl (fun T p => putR T p dirV) T) ↔ (k ∈ keysR T ∨ k ∈ qs) := by
    intro qs
    induction qs with
    | nil => intro T h; exact ⟨h, by simp⟩
    | cons q qs ih =>
      intro T h
      obtain ⟨h1, h2⟩ := ih (putR T q dirV) (h.put q dirV)
      refine ⟨h1, fun k => ?_⟩
      rw [List.foldl_cons, h2, ← getR_isSome, getR_put]
      by_cases e : k = q
      · rw [if_pos e]; simp [e]
      · rw [if_neg e, getR_isSome]; simp [e]
  have := this ps [] sortR_nil
  exact ⟨this.1, fun k => by rw [show unionR ps = ps.foldl (fun T p => putR T p dirV) [] from rfl, this.2 k]; simp [keysR]⟩
theorem diff_eq (S T : List (List UInt8 × LP)) : compact (((keysR S).filter (diffB S T) ++ (keysR T).filter (diffB S T)).mergeSort leT) = diffS S T := by
  obtain ⟨h1, h2⟩ := union_keys (keysR S ++ keysR T)
  refine compact_union _ _ h1 _ fun k => ?_
  rw [h2, List.mem_append, List.mem_append, List.mem_filter, List.mem_filter]
  constructor
  · rintro (⟨a, b⟩ | ⟨a, b⟩)
    · exact ⟨.inl a, b⟩
    · exact ⟨.inr a, b⟩
  · rintro ⟨a | a, b⟩
    · exact .inl ⟨a, b⟩
    · exact .inr ⟨a, b⟩
theorem pathsP_any (hS : SortsT) (v : Option Addr) (L : List (List UInt8 × LV)) (f : List UInt8 → Bool) (xa xb : Nat) (w : World) (h : TreeP w v L)
    (hc : ∀ W, Below w.heap.size w W → ∀ p ∈ keysR L, Calls Tryz.prog 68 #[.string ⟨⟨p⟩⟩, .pointer (some ⟨xa, 0, none⟩), .pointer (some ⟨xb, 0, none⟩)] W fun e w' => e = .returned (.bool (f p)) ∧ Below W.heap.size W w') :
    Calls Tryz.prog 65 #[.pointer v, .func (.func 68) #[] #[.pointer (some ⟨xa, 0, none⟩), .pointer (some ⟨xb, 0, none⟩)]] w fun e w' => ∃ (A : Option Addr) (c : Nat) (l : List (List UInt8)), e = .returned (.slice A l.length c) ∧ Hid (l = (keysR L).filter f) ∧ w'.ownsRow w.heap.size 9 1 (.slice A l.length c) l.length (l.map stv) ∧ Below w.heap.size w w' := by
  rcases h with ⟨rfl, rfl⟩ | ⟨tb, mo, rfl, ht⟩
  · refine (paths_nil _ w).mono ?_
    rintro e w' ⟨rfl, rfl⟩
    exact ⟨none, 0, [], rfl, rfl, World.ownsRow_nil _ _ _ _, Below.refl _ _⟩
  · exact pathsDiff_any hS tb mo L f xa xb w ht hc
set_option maxRecDepth 100000 in
set_option maxHeartbeats 1000000 in
theorem treeDiff_any (hS : SortsT) (va vb : Option Addr) (L M : List (List UInt8 × LV)) (w : World) (ha : TreeP w va L) (hb : TreeP w vb M) :
    Calls Tryz.prog 34 #[.pointer va, .pointer vb] w fun e w' => TxtOwn w' w.heap.size e (diffS (plainL L) (plainL M)) ∧ Below w.heap.size w w' := by
  obtain ⟨D, hD⟩ : ∃ D, D = diffS (plainL L) (plainL M) := ⟨_, rfl⟩
  rw [← hD]
  have HD := Lib.hid hD
  have hkL : ∀ q ∈ keysR L, q.length ≤ 96 := fun q hq => by
    obtain ⟨x, hx, rfl⟩ := List.mem_map.1 hq
    exact goodB_len (ha.ok.good (x.1, x.2.p) (List.mem_map.2 ⟨x, hx, rfl⟩)).1
  have hkM : ∀ q ∈ keysR M, q.length ≤ 96 := fun q hq => by
    obtain ⟨x, hx, rfl⟩ := List.mem_map.1 hq
    exact goodB_len (hb.ok.good (x.1, x.2.p) (List.mem_map.2 ⟨x, hx, rfl⟩)).1
  have hlL : L.length ≤ 128 := by have := ha.ok.len; rwa [plain_len] at this
  have hlM : M.length ≤ 128 := by have := hb.ok.len; rwa [plain_len] at this
  have hb0 : Below w.heap.size w ((w.alloc (.cells #[.pointer va] 27)).alloc (.cells #[.pointer vb] 27)) := (by repeat (first | exact Below.refl _ _ | refine Below.alloc ?_ (by simp) _ | refine Below.setCell ?_ (by simp) _ | refine Below.drew ?_))
  have xa : Blk ((w.alloc (.cells #[.pointer va] 27)).alloc (.cells #[.pointer vb] 27)) w.heap.size 27 #[.pointer va] := (Blk.new w _ _).alloc _
  have xb : Blk ((w.alloc (.cells #[.pointer va] 27)).alloc (.cells #[.pointer vb] 27)) (w.heap.size + 1) 27 #[.pointer vb] := by
    have := Blk.new (w.alloc (.cells #[.pointer va] 27)) 27 #[.pointer vb]
    simpa using this
  have ha0 := Lib.hid (ha.below hb0)
  have hb1 := Lib.hid (hb.below hb0)
  have HB0 := Lib.hid hb0
  clear ha hb hD
  go_enter Tryz.func34, Tryz.ntmps34
  go_wp2_with fail
  generalize ((w.alloc (.cells #[.pointer va] 27)).alloc (.cells #[.pointer vb] 27)) = W0 at *
  have HC : Hid (∀ W, Below W0.heap.size W0 W → ∀ q, q.length ≤ 96 → Calls Tryz.prog 68 #[.string ⟨⟨q⟩⟩, .pointer (some ⟨w.heap.size, 0, none⟩), .pointer (some ⟨w.heap.size + 1, 0, none⟩)] W fun e w' => e = .returned (.bool (diffB (plainL L) (plainL M) q)) ∧ Below W.heap.size W w') := fun W hW q hq =>
    diff1_any va vb L M q w.heap.size (w.heap.size + 1) W (ha0.out.below hW) (hb1.out.below hW) (by omega) (xa.below hW) (xb.below hW)
  have hs0 := HB0.out.size
  refine wp_region_p [(0, true), (1, true), (3, true), (4, true), (2, false), (5, false)] (fun W => Below W0.heap.size W0 W) (by kernel_rfl) (by kernel_rfl) ?_
  simp only [List.map_cons, List.map_nil, List.filterMap_cons, List.filterMap_nil, List.getElem?_cons_zero, List.getElem?_cons_succ, List.length_cons, List.length_nil, Nat.zero_add, Nat.reduceAdd, List.drop_succ_cons, List.drop_zero]
  refine mx_val (by kernel_rfl) ⟨_, (by (intro w' hC; (have q := (xa.below hC).cell 0; simp at q); clear hC; (try go_simp); (try with_reducible rfl); done)), _, (by (simp only [Act.put, List.setIfInBounds_toArray, List.set_cons_zero, List.set_cons_succ]; rfl)), ?_⟩
  refine mx_move _ (by kernel_rfl) rfl ⟨_, (by ((try simp [go_sem]); (try rfl); done)), _, (by (simp only [Act.put, List.setIfInBounds_toArray, List.set_cons_zero, List.set_cons_succ]; rfl)), ?_⟩
  refine mx_val (by kernel_rfl) ⟨_, (by (intro w' hC; (have q := (xb.below hC).cell 0; simp at q); clear hC; (try go_simp); (try with_reducible rfl); done)), _, (by (simp only [Act.put, List.setIfInBounds_toArray, List.set_cons_zero, List.set_cons_succ]; rfl)), ?_⟩
  refine mx_move _ (by kernel_rfl) rfl ⟨_, (by ((try simp [go_sem]); (try rfl); done)), _, (by (simp only [Act.put, List.setIfInBounds_toArray, List.set_cons_zero, List.set_cons_succ]; rfl)), ?_⟩
  refine mx_call ((Below.refl _ _).drew) (by kernel_rfl) ?_ (pathsP_any hS va L (diffB (plainL L) (plainL M)) w.heap.size (w.heap.size + 1) W0.drew (ha0.out.below (Below.refl _ _).drew) (fun W hW q hq => HC.out W ((Below.refl _ _).drew.trans (hW.mono (Nat.le_refl _))) q (hkL q hq))) ?_
  · (go_simp; done)
  rintro e w2 ⟨A1, c1, l1, rfl, hl1, ho1, hb2⟩
  have hlow2 : Below W0.heap.size W0 w2 := (Below.refl _ _).drew.trans (hb2.mono (Nat.le_refl _))
  refine ⟨_, rfl, _, (by (simp only [Act.put, List.setIfInBounds_toArray, List.set_cons_zero, List.set_cons_succ]; rfl)), ?_⟩
  refine mx_call (hlow2) (by kernel_rfl) ?_ (pathsP_any hS vb M (diffB (plainL L) (plainL M)) w.heap.size (w.heap.size + 1) w2 (hb1.out.below hlow2) (fun W hW q hq => HC.out W (hlow2.trans (hW.mono hlow2.size)) q (hkM q hq))) ?_
  · (go_simp; done)
  rintro e w3 ⟨A2, c2, l2, rfl, hl2, ho2, hb3⟩
  have hlow3 : Below W0.heap.size W0 w3 := hlow2.trans (hb3.mono hlow2.size)
  refine ⟨_, rfl, _, (by (simp only [Act.put, List.setIfInBounds_toArray, List.set_cons_zero, List.set_cons_succ]; rfl)), ?_⟩
  refine mx_end hlow3 ?_
  have hw3 := HB0.out.trans (hlow3.mono hs0)
  have hL1 : l1.length ≤ 128 := by rw [hl1.out]; refine Nat.le_trans (List.length_filter_le _ _) ?_; rw [keys_len]; exact hlL
  have hL2 : l2.length ≤ 128 := by rw [hl2.out]; refine Nat.le_trans (List.length_filter_le _ _) ?_; rw [keys_len]; exact hlM
  have hx1 : ∀ x ∈ l1 ++ l2, x.length ≤ 140737488355328 := by
    intro x hx
    have : x.length ≤ 96 := by
      rcases List.mem_append.1 hx with hx | hx
      · rw [hl1.out] at hx; exact hkL x (List.mem_filter.1 hx).1
      · rw [hl2.out] at hx; exact hkM x (List.mem_filter.1 hx).1
    omega
  have HO1 := Lib.hid (own_base (base' := w.heap.size) (own_below ho1 hb3) (fun g hg => Nat.le_trans hs0 (ho1.lt g hg).1))
  have HR2 : Hid (Rd w3 (fun _ => True) 1 A2 l2.length (l2.map stv)) := Lib.hid (Rd.of_own ho2 (fun _ _ _ => trivial))
  have HE : Hid (D = compact ((l1 ++ l2).mergeSort leT)) := by
    show _ = _
    rw [HD.out, ← diff_eq, hl1.out, hl2.out, keys_plain, keys_plain]
  obtain ⟨i0, hi0, hz0, hz1, hz2⟩ := info_parts str_info
  clear ho1 ho2 hl1 hl2 hb2 hb3 hlow2 hlow3 xa xb ha0 hb1 HB0 HC HD hkL hkM
  go_wp2_with (at_builtin; refine wpList_append_any _ rfl (.tmp 10) (.tmp 13) 79 rfl w.heap.size 9 i0 _ 1 16 Tryz.underlying79 hi0 hz0 hz1 hz2 rfl (by omega) (.slice A1 l1.length c1) l1.length (l1.map stv) rfl HO1.out _ _ l2.length c2 (l2.map stv) rfl HR2.out (st_one _) (by simp only [maxLen]; omega) (by omega) hw3.size ?_; intro v4 w4 hown4 hg4 hat4; obtain ⟨A4, c4, rfl, _⟩ := own_form hown4)
  have hw4 : Below w.heap.size w w4 := hw3.trans (grown_below hg4 hw3.size (fun g hg => (HO1.out.lt _ hg).1))
  have hown5 : w4.ownsRow w.heap.size 9 1 (.slice A4 (l1 ++ l2).length c4) (l1 ++ l2).length ((l1 ++ l2).map stv) := by
    rw [List.length_append, List.map_append]
    exact hown4
  have hl5 : (l1 ++ l2).length ≤ 1099511627776 := by rw [List.length_append]; omega
  have e5 : l1.length + l2.length = (l1 ++ l2).length := List.length_append.symm
  rw [e5]
  clear hown4 hg4 hat4 e5 HO1 HR2 hw3
  generalize l1 ++ l2 = ss at *
  refine (hS w.heap.size A4 c4 ss w4 hown5 hx1 hl5).mono ?_
  rintro e w5 ⟨rfl, hown6, hg6⟩
  have hblk : ∀ g, ablk A4 = some g → w.heap.size ≤ g := fun g hg => by
    have := hown5.lt
    obtain ⟨A', c', e, _, _, h6, _⟩ := own_form hown5
    injection e with e _ _
    subst e
    exact (h6 g hg).1
  have hw5 : Below w.heap.size w w5 := hw4.trans (grown_below hg6 hw4.size hblk)
  have hms : (ss.mergeSort leT).length = ss.length := List.length_mergeSort _
  have HOS : Hid (w5.ownsRow w.heap.size 9 1 (.slice A4 (ss.mergeSort leT).length c4) (ss.mergeSort leT).length ((ss.mergeSort leT).map stv)) := by rw [hms]; exact hown6
  have hcon := compactT_any w.heap.size A4 c4 (ss.mergeSort leT) w5 HOS.out (by rw [hms]; exact hl5)
  rw [hms, ← HE.out] at hcon
  have HK := Lib.hid hcon
  clear hcon HOS hms hown6 hg6 hown5
  go_wp2_with fail
  refine HK.out.mono ?_
  rintro e w6 ⟨rfl, hown7, hg7⟩
  have hw6 : Below w.heap.size w w6 := hw5.trans (grown_below hg7 hw5.size hblk)
  go_wp2_with fail
  go_ret
  exact ⟨⟨A4, c4, D, rfl, rfl, hown7⟩, hw6⟩
end Go.Proofs.YtedbjkmgfcnkeaaGreat

/- tree: Same, and a tree that is none. -/
namespace Go.Proofs.YtedbjkmgfcnkeaaGreat
open Go.RowKit

theorem treeSame_any (hS : SortsT) (va vb : Option Addr) (L M : List (List UInt8 × LV)) (w : World) (ha : TreeP w va L) (hb : TreeP w vb M) :
    Calls Tryz.prog 15 #[.pointer va, .pointer vb] w fun e w' => e = .returned (.bool (decide (diffS (plainL L) (plainL M) = []))) ∧ Below w.heap.size w w' := by
  have HD := Lib.hid (treeDiff_any hS va vb L M w ha hb)
  generalize diffS (plainL L) (plainL M) = D at *
  clear ha hb
  go_enter Tryz.func15, Tryz.ntmps15
  go_wp2_with fail
  refine HD.out.mono ?_
  rintro e w1 ⟨⟨A, c, l, rfl, hl, _⟩, hb1⟩
  obtain rfl := hl.out
  rcases l with _ | ⟨x, l⟩
  · go_wp2_with fail
    go_ret
    exact ⟨rfl, hb1⟩
  · have h0 : ((((x :: l).length : Nat) : Int) == 0) = false := by simp; omega
    have e0 : Hid (decide (x :: l = []) = false) := by show _ = _; simp
    generalize (x :: l).length = n at *
    go_wp2_with fail
    go_ret
    exact ⟨ret_b e0.out.symm, hb1⟩
theorem treeLen_nil (w : World) : Calls Tryz.prog 28 #[.pointer none] w fun e w' => e = .returned (.int .i64 0) ∧ Below w.heap.size w w' := by
  go_enter Tryz.func28, Tryz.ntmps28
  go_wp2_with fail
  go_ret
  exact ⟨rfl, Below.refl _ _⟩
theorem treeClone_nil (w : World) : Calls Tryz.prog 14 #[.pointer none] w fun e w' => e = .returned (.pointer none) ∧ Below w.heap.size w w' := by
  go_enter Tryz.func14, Tryz.ntmps14
  go_wp2_with fail
  go_ret
  exact ⟨rfl, Below.refl _ _⟩
theorem treeItems_nil (w : World) : Calls Tryz.prog 13 #[.pointer none] w fun e w' => e = .returned (.slice none 0 0) ∧ Below w.heap.size w w' := by
  go_enter Tryz.func13, Tryz.ntmps13
  go_wp2_with fail
  refine (treeall_nil w).mono ?_
  rintro e w1 ⟨rfl, rfl⟩
  go_wp2_with fail
  go_loopw [2, 8] (fun ov iv wr => ov = .slice none 0 0 ∧ iv = .int .i64 0 ∧ Below w.heap.size w wr) (fun _ _ _ => 0)
  case atStart => exact ⟨rfl, rfl, Below.refl _ _⟩
  case round =>
    obtain ⟨rfl, rfl, hb⟩ := hrel
    go_wp2_with fail
    go_ret
    exact ⟨rfl, hb⟩
theorem treeBelow_nil (p : List UInt8) (w : World) : Calls Tryz.prog 97 #[.pointer none, .string ⟨⟨p⟩⟩] w fun e w' => e = .returned (.slice none 0 0) ∧ Below w.heap.size w w' := by
  go_enter Tryz.func97, Tryz.ntmps97
  go_wp2_with fail
  refine (paths_nil _ _).mono ?_
  rintro e w1 ⟨rfl, rfl⟩
  go_wp2_with fail
  go_ret
  exact ⟨rfl, (by repeat (first | exact Below.refl _ _ | refine Below.alloc ?_ (by simp) _ | refine Below.setCell ?_ (by simp) _ | refine Below.drew ?_))⟩
theorem treeGet_nil (p : List UInt8) (w : World) : Calls Tryz.prog 25 #[.pointer none, .string ⟨⟨p⟩⟩] w fun e w' => LeafOwn w' w.heap.size e none ∧ Below w.heap.size w w' := by
  refine (treeGet_ofP none p w 0 none 0 [] (fun _ => False) Rd.nil (by simp) (fun W _ => treeget_nil p W)).mono ?_
  rintro e w' ⟨A', c', l', rfl, h1, h2, h3⟩
  exact ⟨⟨A', c', l', rfl, h1, h2⟩, h3⟩
end Go.Proofs.YtedbjkmgfcnkeaaGreat

/- tenderlaw08: Plays. -/
namespace Go.Proofs.YtedbjkmgfcnkeaaGreat
open Go.RowKit Go.Maps

/-- a tree on which items were set, and the document's -/
structure Played (w : World) (T : List (List UInt8 × LP)) (tb : Nat) (mo : Option Nat) (L : List (List UInt8 × LV)) (B : Option Addr) (M : List (List UInt8 × LV)) : Prop where
  tree : TreeAt w tb mo L
  plain : Hid (plainL L = T)
  its : Its w B M
  same : Hid (plainL M = T)
theorem Played.below {w w' : World} {T : List (List UInt8 × LP)} {tb : Nat} {mo : Option Nat} {L M : List (List UInt8 × LV)} {B : Option Addr} (h : Played w T tb mo L B M) (k : Below w.heap.size w w') : Played w' T tb mo L B M := ⟨h.tree.below k, h.plain, h.its.below k, h.same⟩


set_option maxRecDepth 100000 in
set_option maxHeartbeats 1000000 in
theorem plays08_any (A : Option Addr) (c : Nat) (l : List (List UInt8 × LV)) (w : World) (h : ItA w A l) (hl : l.length ≤ 200 ∧ ∀ x ∈ l, x.1.length ≤ 200 ∧ x.2.x.l.length ≤ 20000) :
    Calls Tryz.prog 9 #[.slice A l.length c] w fun e w' => ∃ (tb : Nat) (mo : Option Nat) (L : List (List UInt8 × LV)) (B : Option Addr) (d : Nat) (M : List (List UInt8 × LV)), e = .returned (.tuple #[.pointer (some ⟨tb, 0, none⟩), .slice B M.length d, .bool true]) ∧ Played w' (playS [] (plainL l)) tb mo L B M ∧
      w.heap.size ≤ tb ∧ (∀ m, mo = some m → w.heap.size ≤ m) ∧ Below w.heap.size w w' := by
  have HA := Lib.hid h
  clear h
  go_enter Tryz.func9, Tryz.ntmps9
  go_wp2_with fail
  refine (treeNew_nil w).mono ?_
  rintro e w1 ⟨rfl, ht1, hb1⟩
  obtain ⟨tb, htb⟩ : ∃ tb, tb = w.heap.size := ⟨_, rfl⟩
  rw [← htb] at ht1
  rw [← htb]
  have HT1 := Lib.hid ht1
  have htw : w.heap.size ≤ tb := by omega
  clear ht1 htb
  go_wp2_with fail
  go_loopw [7, 24] (fun wv iv wr => ∃ (i : Nat) (mo : Option Nat) (L : List (List UInt8 × LV)) (B : Option Addr) (d : Nat) (M : List (List UInt8 × LV)), i ≤ l.length ∧ iv = .int .i64 (i : Int) ∧ wv = .slice B M.length d ∧ Played wr (playS [] (plainL (l.take i))) tb mo L B M ∧ (∀ m, mo = some m → w.heap.size ≤ m) ∧ Below w.heap.size w wr) (fun _ iv _ => l.length - (intOf iv).toNat)
  case atStart => exact ⟨0, none, [], none, 0, [], Nat.zero_le _, rfl, rfl, ⟨HT1.out, rfl, Its.nil _, rfl⟩, by simp, hb1⟩
  case round =>
    obtain ⟨i, mo, L, B, d, M, hi, rfl, rfl, hP, hmo, hb⟩ := hrel
    by_cases hlt : i < l.length
    · have hA := HA.out.below hb
      obtain ⟨b, off, rfl, hbb, hc0, hc1, hc2⟩ := hA.at_ hlt
      have hxo := hA.ok _ (List.getElem_mem hlt)
      have hxl := hl.2 _ (List.getElem_mem hlt)
      have hps : Hid (playS [] (plainL (l.take (i + 1))) = setS (playS [] (plainL (l.take i))) l[i].1 l[i].2.p) := Lib.hid (by rw [plain_snoc l i hlt, play_snoc])
      have hsz := hb.size
      obtain ⟨x, hx⟩ : ∃ x, x = l[i] := ⟨_, rfl⟩
      rw [← hx] at hc0 hc1 hc2 hxo hxl hps
      simp only [stv] at hc0
      obtain ⟨T, hT⟩ : ∃ T, T = playS [] (plainL (l.take i)) := ⟨_, rfl⟩
      rw [← hT] at hP hps
      have hba : Below wr.heap.size wr (wr.alloc (.cells #[.string ⟨⟨x.1⟩⟩, .int .i64 x.2.k, .slice x.2.x.A x.2.x.l.length x.2.x.c] 51)) := (Below.refl _ _).alloc (Nat.le_refl _) _
      have xb := Blk.new wr 51 #[.string ⟨⟨x.1⟩⟩, .int .i64 x.2.k, .slice x.2.x.A x.2.x.l.length x.2.x.c]
      have hP1 := hP.below hba
      have hw1 := hb.trans (hba.mono hb.size)
      have HX1 := Lib.hid (hxo.1.x.below hba)
      have HP1 := Lib.hid hP1
      have htl := hP.tree.blk.lt
      have hml := hP.tree.lt
      obtain ⟨hx1, hx2⟩ := hxl
      have hok : TreeOk (plainL M) := by rw [hP.same.out, ← hP.plain.out]; exact hP.tree.plain
      have hMS : mayS (plainL M) x.1 (x.2.k, x.2.x.l) = mayS T x.1 (x.2.k, x.2.x.l) := by rw [hP.same.out]
      have HLM : Hid (mayS (plainL L) x.1 (x.2.k, x.2.x.l) = mayS T x.1 (x.2.k, x.2.x.l)) := Lib.hid (by rw [hP.plain.out])
      have q0 := xb.cell 0
      have q1 := xb.cell 1
      have q2 := xb.cell 2
      simp only [List.getElem?_toArray, List.getElem?_cons_zero, List.getElem?_cons_succ] at q0 q1 q2
      clear hP hA hxo hx hT hP1
      go_wp2_with fail
      refine (refSet_any B d M x.1 x.2.k x.2.x.A x.2.x.c x.2.x.l _ HP1.out.its hok (HX1.out.mono (fun _ _ _ => trivial)) (by omega) (by omega)).mono ?_
      rintro e w2 ⟨B2, d2, M2, rfl, hM2, hI2, hb2⟩
      rw [hMS] at hM2 ⊢
      have HM2 : Hid (plainL M2 = playS [] (plainL (l.take (i + 1)))) := Lib.hid (by have := plain_step M x.1 x.2; rw [hM2.out, ← hMS]; refine this.trans ?_; rw [HP1.out.same.out, hps.out])
      have HI2 := Lib.hid hI2
      have HT2 := Lib.hid (HP1.out.tree.below hb2)
      have HX2 := Lib.hid ((HX1.out.below hb2).1)
      have xb2 := xb.below hb2
      have hw2 := hw1.trans (hb2.mono hw1.size)
      have hxn : ¬ (wr.heap.size = tb ∨ mo = some wr.heap.size) := by
        rintro (e | e)
        · omega
        · have := hml _ e; omega
      have q0 := xb2.cell 0
      have q1 := xb2.cell 1
      have q2 := xb2.cell 2
      simp only [List.getElem?_toArray, List.getElem?_cons_zero, List.getElem?_cons_succ] at q0 q1 q2
      have HPS : Hid (setS (plainL L) x.1 (x.2.k, x.2.x.l) = playS [] (plainL (l.take (i + 1)))) := Lib.hid (by rw [hps.out, HP1.out.plain.out]; rfl)
      clear hM2 hI2 hb2 HX1 xb hps HP1 hok
      have HMT := Lib.hid hMS
      obtain ⟨ms, hms⟩ : ∃ ms, ms = mayS T x.1 (x.2.k, x.2.x.l) := ⟨_, rfl⟩
      have HMS : Hid (mayS (plainL L) x.1 (x.2.k, x.2.x.l) = ms) := Lib.hid (by rw [HLM.out, hms])
      rw [← hms]
      clear hms hMS HLM HMT
      go_wp2_with fail
      refine (treeSet_any sortsT tb mo L x.1 x.2.k x.2.x.A x.2.x.c x.2.x.l _ w2 HT2.out HX2.out (by omega) (by omega)).mono ?_
      rintro e w3 ⟨rfl, hto⟩
      rw [HMS.out]
      obtain ⟨⟨mo', L', hT3, hL3, hmo3⟩, hfr⟩ := hto
      have HI3 := Lib.hid (HI2.out.set HT2.out hfr)
      have HT3 := Lib.hid hT3
      have hL4 : Hid (plainL L' = playS [] (plainL (l.take (i + 1)))) := Lib.hid (hL3.out.trans HPS.out)
      have hw3 : Below w.heap.size w w3 := hw2.trans (hfr.below hw2.size (fun k hk e => by
        rcases e with e | e
        · omega
        · have := hmo _ e; omega))
      have hmo4 : ∀ m, mo' = some m → w.heap.size ≤ m := fun m e => by
        rcases hmo3 m e with e | e
        · exact hmo m e
        · have := hw2.size; omega
      clear hT3 hfr hL3 HI2 HT2 HX2 xb2 hmo3 q0 q1 q2 HPS HMS
      go_wp2_with fail
      go_roundw
      case rel => exact ⟨i + 1, mo', L', B2, d2, M2, hlt, by go_num, rfl, ⟨HT3.out, hL4, HI3.out, HM2⟩, hmo4, hw3⟩
      case measure => simp [intOf]; omega
    · have e : i = l.length := by omega
      subst e
      rw [List.take_length] at hP
      go_wp2_with fail
      go_ret3
      exact ⟨tb, mo, L, B, d, M, rfl, hP, htw, hmo, hb⟩

end Go.Proofs.YtedbjkmgfcnkeaaGreat

/- tenderlaw08: lives. -/
namespace Go.Proofs.YtedbjkmgfcnkeaaGreat
open Go.RowKit Go.Maps

def exA : List (List UInt8 × LP) := [([97], (2, []))]
def exB : List (List UInt8 × LP) := [([97], (2, [])), ([97, 47, 98], (1, [120]))]
theorem ex1 : mayS [] [97, 47, 98] (1, [120]) = 22 := by decide
theorem ex1s : setS [] [97, 47, 98] (1, [120]) = [] := by decide
theorem ex2 : mayS [] [97] (2, []) = 0 := by decide
theorem ex2s : setS [] [97] (2, []) = exA := by decide
theorem ex3 : mayS exA [97, 47, 98] (1, [120]) = 0 := by decide
theorem ex3s : setS exA [97, 47, 98] (1, [120]) = exB := by decide
theorem ex4 : mayS exB [97] (0, []) = 22 := by decide
theorem ex4s : setS exB [97] (0, []) = exB := by decide

/-- a row of bytes that is marked -/
def BlkM (w : World) (g : Nat) (cs : Array Value) (f : Nat × Nat) : Prop := w.heap[g]? = some (.cells cs 5 f)
theorem BlkM.lt {w : World} {g : Nat} {cs : Array Value} {f : Nat × Nat} (h : BlkM w g cs f) : g < w.heap.size := (Array.getElem?_eq_some_iff.1 h).1
theorem BlkM.fr {w w' : World} {g : Nat} {cs : Array Value} {f : Nat × Nat} {S : Nat → Prop} (h : BlkM w g cs f) (k : Fr S w w') (hs : ¬ S g) : BlkM w' g cs f := (k.block g h.lt hs).trans h
/-- one call of Set of bytes that lie in the world -/
theorem set_step {w : World} {tb : Nat} {mo : Option Nat} {L : List (List UInt8 × LV)} {T T' : List (List UInt8 × LP)} {m : Int} (p : List UInt8) (k : Int) (A : Option Addr) (c : Nat) (l : List UInt8) (h : TreeAt w tb mo L) (hT : Hid (plainL L = T)) (hm : mayS T p (k, l) = m) (hs : setS T p (k, l) = T') (hy : By w (fun _ => True) A l) (hp : p.length ≤ 1048576) (hn : l.length ≤ 140737488355328) :
    Calls Tryz.prog 30 #[.pointer (some ⟨tb, 0, none⟩), .string ⟨⟨p⟩⟩, .agg #[.int .i64 k, .slice A l.length c]] w fun e w' => e = .returned (.int .i64 m) ∧ ∃ mo' L', TreeAt w' tb mo' L' ∧ Hid (plainL L' = T') ∧ (∀ m, mo' = some m → mo = some m ∨ w.heap.size ≤ m) ∧ Fr (fun g => g = tb ∨ mo = some g) w w' := by
  have hm' : mayS (plainL L) p (k, l) = m := by rw [hT.out]; exact hm
  have hs' : setS (plainL L) p (k, l) = T' := by rw [hT.out]; exact hs
  refine (treeSet_any sortsT tb mo L p k A c l _ w h hy hp hn).mono ?_
  rintro e w' ⟨rfl, hto⟩
  rw [hm']
  rw [hs'] at hto
  obtain ⟨mo', L', h1, h2, h3⟩ := hto.at_
  exact ⟨rfl, mo', L', h1, h2, h3, hto.fr⟩
end Go.Proofs.YtedbjkmgfcnkeaaGreat

/- What a tree on which items were set tells, in terms of the plain rows. -/
namespace Go.Proofs.YtedbjkmgfcnkeaaGreat
open Go.RowKit Go.Maps

def dataL (o : Option LP) : List UInt8 := (o.map (·.2)).getD []
theorem kind_plain (L : List (List UInt8 × LV)) (p : List UInt8) : ((getR L p).map LV.k).getD 0 = kindL (getR (plainL L) p) := by
  rw [get_plain]
  cases getR L p <;> rfl
theorem data_plain (L : List (List UInt8 × LV)) (p : List UInt8) : ((getR L p).map fun x => x.x.l).getD [] = dataL (getR (plainL L) p) := by
  rw [get_plain]
  cases getR L p <;> rfl
/-- the document's leaf, to be read -/
theorem refGetP {w : World} {B : Option Addr} {M : List (List UInt8 × LV)} {T : List (List UInt8 × LP)} (d : Nat) (h : Its w B M) (hT : Hid (plainL M = T)) (p : List UInt8) (hp : p.length ≤ 1048576) :
    Calls Tryz.prog 21 #[.slice B M.length d, .string ⟨⟨p⟩⟩] w fun e w' => (∃ (A : Option Addr) (c : Nat) (l : List UInt8), e = .returned (.agg #[.int .i64 (kindL (getR T p)), .slice A l.length c]) ∧ Hid (l = dataL (getR T p)) ∧ By w' (fun _ => True) A l) ∧ Below w.heap.size w w' := by
  refine (refGet08_any B d M p w h (by omega)).mono ?_
  rintro e w' ⟨rfl, hb⟩
  refine ⟨?_, hb⟩
  rw [← hT.out, get_plain]
  rcases hg : getR M p with _ | o
  · exact ⟨none, 0, [], rfl, rfl, Rd.nil⟩
  · exact ⟨o.x.A, o.x.c, o.x.l, rfl, rfl, ((h.ok _ (getR_mem hg)).below hb).1⟩
/-- the tree's, to be read -/
theorem treeGetP {w : World} {tb : Nat} {mo : Option Nat} {L : List (List UInt8 × LV)} {T : List (List UInt8 × LP)} (h : TreeAt w tb mo L) (hT : Hid (plainL L = T)) (p : List UInt8) (hp : p.length ≤ 1048576) :
    Calls Tryz.prog 25 #[.pointer (some ⟨tb, 0, none⟩), .string ⟨⟨p⟩⟩] w fun e w' => (∃ (A : Option Addr) (c : Nat) (l : List UInt8), e = .returned (.agg #[.int .i64 (kindL (getR T p)), .slice A l.length c]) ∧ Hid (l = dataL (getR T p)) ∧ OwB w' w.heap.size (.slice A l.length c) l) ∧ Below w.heap.size w w' := by
  refine (treeGet_any tb mo L p w h (by omega)).mono ?_
  rintro e w' ⟨⟨A, c, l, he, hl, ho⟩, hb⟩
  rw [kind_plain, hT.out] at he
  rw [data_plain, hT.out] at hl
  exact ⟨⟨A, c, l, he, hl, ho⟩, hb⟩
theorem own_txt {w : World} {base : Nat} {A : Option Addr} {c : Nat} {l : List (List UInt8)} (h : w.ownsRow base 9 1 (.slice A l.length c) l.length (l.map stv)) : Rd w (fun _ => True) 1 A l.length (l.map stv) := Rd.of_own h (fun _ _ _ => trivial)
theorem Played.lens {w : World} {T : List (List UInt8 × LP)} {tb : Nat} {mo : Option Nat} {L M : List (List UInt8 × LV)} {B : Option Addr} (h : Played w T tb mo L B M) : L.length = T.length ∧ M.length = T.length ∧ T.length ≤ 128 := by
  have h1 := h.tree.plain.len
  have h2 := plain_len L
  have h3 := plain_len M
  rw [h.plain.out] at h1 h2
  rw [h.same.out] at h3
  omega
/-- items that a tree has told, as a row -/
theorem ItsOwn.itsT {w : World} {base : Nat} {A : Option Addr} {c : Nat} {M : List (List UInt8 × LV)} {T : List (List UInt8 × LP)} (h : ItsOwn w base A c M) (hM : Hid (plainL M = T)) (hok : TreeOk T) : Its w A M := by
  refine h.its ?_ ?_
  · have := hok.len
    rw [← hM.out, plain_len] at this
    omega
  · intro x hx
    have hm : (x.1, x.2.p) ∈ T := by rw [← hM.out]; exact List.mem_map.2 ⟨x, hx, rfl⟩
    obtain ⟨g1, g2, g3⟩ := hok.good _ hm
    have h1 := goodB_len g1
    have h2 : x.2.x.l.length ≤ 4096 := by
      unfold checkN LV.p at g3
      dsimp only at g3
      by_cases h1 : x.2.k = 1
      · rw [if_pos h1] at g3
        by_cases h2 : x.2.x.l.length ≤ 4096
        · exact h2
        · rw [if_neg h2] at g3; simp at g3
      · rw [if_neg h1] at g3
        by_cases h3 : x.2.k = 0 ∨ x.2.k = 2
        · rw [if_pos h3] at g3
          by_cases h4 : x.2.x.l.length = 0
          · omega
          · rw [if_neg h4] at g3; simp at g3
        · rw [if_neg h3] at g3; simp at g3
    dsimp only at h1
    omega
end Go.Proofs.YtedbjkmgfcnkeaaGreat

/- tree.New of any items. -/
namespace Go.Proofs.YtedbjkmgfcnkeaaGreat
open Go.RowKit Go.Maps

/-- set, while there is no error -/
def stepS (R : List (List UInt8 × LP) × Int) (x : List UInt8 × LP) : List (List UInt8 × LP) × Int := if R.2 = 0 then (setS R.1 x.1 x.2, mayS R.1 x.1 x.2) else R
def newS (l : List (List UInt8 × LP)) : List (List UInt8 × LP) × Int := l.foldl stepS ([], 0)
theorem new_snoc (l : List (List UInt8 × LP)) (x : List UInt8 × LP) : newS (l ++ [x]) = stepS (newS l) x := by simp [newS]
theorem step_stop (R : List (List UInt8 × LP) × Int) (h : R.2 ≠ 0) : ∀ (l : List (List UInt8 × LP)), l.foldl stepS R = R
  | [] => rfl
  | x :: l => by
    rw [List.foldl_cons, show stepS R x = R by unfold stepS; rw [if_neg h]]
    exact step_stop R h l
theorem new_stop (l : List (List UInt8 × LP)) (i : Nat) (h : (newS (l.take i)).2 ≠ 0) : newS l = newS (l.take i) := by
  conv => lhs; rw [← List.take_append_drop i l]
  unfold newS at h ⊢
  rw [List.foldl_append]
  exact step_stop _ h _
theorem new_ok (l : List (List UInt8 × LP)) : TreeOk (newS l).1 := by
  unfold newS
  have : ∀ (l : List (List UInt8 × LP)) R, TreeOk R.1 → TreeOk (l.foldl stepS R).1 := by
    intro l
    induction l with
    | nil => exact fun R h => h
    | cons x l ih =>
      intro R h
      refine ih _ ?_
      unfold stepS
      split
      · exact h.set x.1 x.2
      · exact h
  exact this l _ TreeOk.nil
/-- what New tells -/
def NewTo (w w' : World) (e : Ending) (R : List (List UInt8 × LP) × Int) : Prop :=
  (Hid (R.2 ≠ 0) ∧ e = .returned (.tuple #[.pointer none, .int .i64 R.2]) ∧ Below w.heap.size w w') ∨
  (Hid (R.2 = 0) ∧ ∃ (tb : Nat) (mo : Option Nat) (L : List (List UInt8 × LV)), e = .returned (.tuple #[.pointer (some ⟨tb, 0, none⟩), .int .i64 0]) ∧ TreeAt w' tb mo L ∧ Hid (plainL L = R.1) ∧ Below w.heap.size w w')
set_option maxRecDepth 100000 in
set_option maxHeartbeats 1000000 in
theorem treeNew_any (A : Option Addr) (c : Nat) (l : List (List UInt8 × LV)) (w : World) (h : ItA w A l) (hl : l.length ≤ 200 ∧ ∀ x ∈ l, x.1.length ≤ 200 ∧ x.2.x.l.length ≤ 20000) :
    Calls Tryz.prog 26 #[.slice A l.length c] w fun e w' => NewTo w w' e (newS (plainL l)) := by
  have HA := Lib.hid h
  clear h
  go_enter Tryz.func26, Tryz.ntmps26
  go_wp2_with fail
  have ht1 := TreeAt.new w
  have hb1 : Below w.heap.size w (w.alloc (.cells #[.map none] 84)) := (by repeat (first | exact Below.refl _ _ | refine Below.alloc ?_ (by simp) _ | refine Below.setCell ?_ (by simp) _ | refine Below.drew ?_))
  generalize w.alloc (.cells #[.map none] 84) = w1 at *
  generalize htb : w.heap.size = tb at *
  have htw : w.heap.size ≤ tb := by omega
  have HT1 := Lib.hid ht1
  clear ht1
  go_loopw [12] (fun iv wr => ∃ (i : Nat) (mo : Option Nat) (L : List (List UInt8 × LV)), i ≤ l.length ∧ iv = .int .i64 (i : Int) ∧ TreeAt wr tb mo L ∧ Hid (newS (plainL (l.take i)) = (plainL L, 0)) ∧ (∀ m, mo = some m → tb ≤ m) ∧ Below tb w wr) (fun iv _ => l.length - (intOf iv).toNat)
  case atStart => exact ⟨0, none, [], Nat.zero_le _, rfl, HT1.out, rfl, by simp, hb1⟩
  case round =>
    obtain ⟨i, mo, L, hi, rfl, hT, hn, hmo, hb⟩ := hrel
    have hbw : Below w.heap.size w wr := by rw [htb]; exact hb
    by_cases hlt : i < l.length
    · have hA := HA.out.below hbw
      obtain ⟨b, off, rfl, hbb, hc0, hc1, hc2⟩ := hA.at_ hlt
      have hxo := hA.ok _ (List.getElem_mem hlt)
      have hxl := hl.2 _ (List.getElem_mem hlt)
      have hps : newS (plainL (l.take (i + 1))) = (setS (plainL L) l[i].1 l[i].2.p, mayS (plainL L) l[i].1 l[i].2.p) := by rw [plain_snoc l i hlt, new_snoc, hn.out]; rfl
      have hst : mayS (plainL L) l[i].1 l[i].2.p ≠ 0 → newS (plainL l) = newS (plainL (l.take (i + 1))) := fun h0 => by
        have e : plainL (l.take (i + 1)) = (plainL l).take (i + 1) := by simp [plainL]
        rw [e]
        refine new_stop _ _ ?_
        rw [← e, hps]
        exact h0
      have hsz := hbw.size
      obtain ⟨x, hx⟩ : ∃ x, x = l[i] := ⟨_, rfl⟩
      rw [← hx] at hc0 hc1 hc2 hxo hxl hps hst
      simp only [stv] at hc0
      have hba : Below wr.heap.size wr (wr.alloc (.cells #[.string ⟨⟨x.1⟩⟩, .int .i64 x.2.k, .slice x.2.x.A x.2.x.l.length x.2.x.c] 51)) := (Below.refl _ _).alloc (Nat.le_refl _) _
      have xb := Blk.new wr 51 #[.string ⟨⟨x.1⟩⟩, .int .i64 x.2.k, .slice x.2.x.A x.2.x.l.length x.2.x.c]
      have HT2 := Lib.hid (hT.below hba)
      have HX1 := Lib.hid (hxo.1.x.below hba)
      have hw1 := hbw.trans (hba.mono hbw.size)
      obtain ⟨hx1, hx2⟩ := hxl
      have q0 := xb.cell 0
      have q1 := xb.cell 1
      have q2 := xb.cell 2
      simp only [List.getElem?_toArray, List.getElem?_cons_zero, List.getElem?_cons_succ] at q0 q1 q2
      have HPS := Lib.hid hps
      have HST := Lib.hid hst
      obtain ⟨ms, hms⟩ : ∃ ms, ms = mayS (plainL L) x.1 (x.2.k, x.2.x.l) := ⟨_, rfl⟩
      have HMS := Lib.hid hms
      clear hT hA hxo hx hps hst hn hms
      go_wp2_with fail
      refine (treeSet_any sortsT tb mo L x.1 x.2.k x.2.x.A x.2.x.c x.2.x.l _ _ HT2.out HX1.out.1 (by omega) (by omega)).mono ?_
      rintro e w3 ⟨rfl, hto⟩
      rw [← HMS.out]
      obtain ⟨⟨mo', L', hT3, hL3, hmo3⟩, hfr⟩ := hto
      have hw3 : Below w.heap.size w w3 := hw1.trans (hfr.below hw1.size (fun k hk e => by
        rcases e with e | e
        · omega
        · have := hmo _ e; omega))
      have hmo4 : ∀ m, mo' = some m → tb ≤ m := fun m e => by
        rcases hmo3 m e with e | e
        · exact hmo m e
        · have := hw1.size; omega
      by_cases hm0 : ms = 0
      · have HN2 : Hid (newS (plainL (l.take (i + 1))) = (plainL L', 0)) := Lib.hid (by rw [HPS.out]; exact Prod.ext hL3.out.symm (HMS.out.symm.trans hm0))
        have HT3 := Lib.hid hT3
        subst hm0
        clear hT3 hfr hL3 HT2 HX1 xb hmo3 q0 q1 q2 HPS HST HMS hc0 hc1 hc2
        go_wp2_with fail
        go_roundw
        case rel => exact ⟨i + 1, mo', L', hlt, by go_num, HT3.out, HN2, hmo4, by rw [htb] at hw3; exact hw3⟩
        case measure => simp [intOf]; omega
      · have hmb : (ms != 0) = true := by simpa using hm0
        have hR2 : (newS (plainL l)).2 = ms := by
          rw [HST.out (by rw [show x.2.p = (x.2.k, x.2.x.l) from rfl, ← HMS.out]; exact hm0), HPS.out, HMS.out]; rfl
        have HR := Lib.hid hR2
        clear hT3 hfr hL3 HT2 HX1 xb hmo3 q0 q1 q2 HPS HST HMS hc0 hc1 hc2 hR2
        go_wp2_with fail
        go_ret2
        exact .inl ⟨by show _ ≠ _; rw [HR.out]; exact hm0, by rw [HR.out]; rfl, hw3⟩
    · have e : i = l.length := by omega
      subst e
      rw [List.take_length] at hn
      go_wp2_with fail
      go_ret2
      exact .inr ⟨by show _ = _; rw [hn.out], tb, mo, L, rfl, hT, by show _ = _; rw [hn.out], hbw⟩
end Go.Proofs.YtedbjkmgfcnkeaaGreat
