/- From a law's contract ('it returns true, and all that was there is as it was') to its row. -/
import Derived.Test.YtjcfphdjgagimaaGreatDoorA01
import Derived.SizedLaws
import Derived.Lib.SmallJoins
import Derived.Deep.Slices
import Derived.Deep.Fields
import Derived.Laws.OwnMore
import Derived.Maps.AppendAt
import Derived.Deep.AppendLies
import Derived.Deep.Draws
import Derived.RegionTactic
import Derived.OwnWalk
import Derived.ArgAppend
import Derived.Deep.RegionHeld3

namespace Go.Proofs.YtjcfphdjgagimaaGreatDoor
open Go.RowKit Go.WideShapes Go.ChangeShapes Go.ChangeAt

theorem trodAll_stays {H : Type} {enc : TypeId × Value → H} {W W' : World} {sp : Nat → Bool} (hb : Below W.heap.size W W') :
    ∀ (ts : List TypeId) (vs : List Value) (ds : List (DataW H)) (ps : List MemPlace), (∀ t ∈ ts, Tryz.prog.readableRec t = true ∧ t < Tryz.prog.types.size) →
      DataW.TrodAll enc Tryz.prog W 0 (fun _ => true) true ts vs ds ps → (∀ p ∈ ps, p.block < W.heap.size ∧ sp p.block = true) →
      DataW.TrodAll enc Tryz.prog W' 0 sp true ts vs ds ps
  | [], [], [], _, _, h, _ => h
  | t :: ts, v :: vs, d :: ds, ps, hr, h, hp => by
    obtain ⟨p, q, h1, h2, rfl⟩ := h
    refine ⟨p, q, ?_, trodAll_stays hb ts vs ds q (fun t ht => hr t (by simp [ht])) h2 (fun x hx => hp x (by simp [hx])), rfl⟩
    exact WideElems.Trod_stays Tryz.laidOut (hr t (by simp)).1 (hr t (by simp)).2 h1 (fun x hx => hb.same (hp x (by simp [hx])).1) (fun x hx => (hp x (by simp [hx])).2)
  | [], _ :: _, _, _, _, h, _ => h.elim
  | [], [], _ :: _, _, _, h, _ => h.elim
  | _ :: _, [], _, _, _, h, _ => h.elim
  | _ :: _, _ :: _, [], _, _, h, _ => h.elim

theorem trodAll_len {H : Type} {enc : TypeId × Value → H} {P : Program} {W : World} {base : Nat} {sp : Nat → Bool} {hd : Bool} :
    ∀ (ts : List TypeId) (vs : List Value) (ds : List (DataW H)) (ps : List MemPlace), DataW.TrodAll enc P W base sp hd ts vs ds ps → ds.length = ts.length
  | [], [], [], _, _ => rfl
  | t :: ts, v :: vs, d :: ds, ps, h => by
    obtain ⟨p, q, _, h2, _⟩ := h
    simpa using trodAll_len ts vs ds q h2
  | [], _ :: _, _, _, h => h.elim
  | [], [], _ :: _, _, h => h.elim
  | _ :: _, [], _, _, h => h.elim
  | _ :: _, _ :: _, [], _, h => h.elim

set_option maxRecDepth 100000 in
/-- every parameter's type can be read -/
theorem law_reads {ts : List TypeId} (h : (ts.all fun t => Tryz.prog.readableRec t && decide (t < Tryz.prog.types.size)) = true) : ∀ t ∈ ts, Tryz.prog.readableRec t = true ∧ t < Tryz.prog.types.size := by
  intro t ht
  have := List.all_eq_true.1 h t ht
  simpa using this

end Go.Proofs.YtjcfphdjgagimaaGreatDoor

/- Arguments opened: structs by value of any number of one-cell fields. -/
namespace Go.Proofs.YtjcfphdjgagimaaGreatDoor
open Go.RowKit Go.WideShapes Go.ChangeShapes Go.ChangeAt Go.Deep Go.Joins

section
variable {H : Type} {enc : TypeId × Value → H} {P : Program} {w : World} {base : Nat} {spare : Nat → Bool} {held : Bool}
end
end Go.Proofs.YtjcfphdjgagimaaGreatDoor

/- Words for memory: what may change between two worlds (Fr), what a slice reads as (Rd), a block known whole (Blk), append onto an owned row. No program. -/
namespace Go.Proofs.YtjcfphdjgagimaaGreatDoor
open Go.RowKit

theorem add_none (b o j : Nat) : (⟨b, o, none⟩ : Addr).add j = ⟨b, o + j, none⟩ := by
  unfold Addr.add
  split
  · rename_i h; subst h; rfl
  · rfl

/-- Between w and w' only blocks of S, and new ones, have turned. -/
structure Fr (S : Nat → Prop) (w w' : World) : Prop where
  os : w'.os = w.os
  tape : w'.tape = w.tape
  output : w'.output = w.output
  size : w.heap.size ≤ w'.heap.size
  block : ∀ k, k < w.heap.size → ¬ S k → w'.heap[k]? = w.heap[k]?

/-- the block of a slice's address -/
def ablk : Option Addr → Option Nat | some a => some a.block | none => none

namespace Fr
variable {S S' : Nat → Prop} {a b c : World}
theorem refl (S : Nat → Prop) (w : World) : Fr S w w := ⟨rfl, rfl, rfl, Nat.le_refl _, fun _ _ _ => rfl⟩
theorem mono (h : Fr S a b) (hs : ∀ k, k < a.heap.size → S k → S' k) : Fr S' a b := ⟨h.os, h.tape, h.output, h.size, fun k hk hn => h.block k hk (fun hx => hn (hs k hk hx))⟩
theorem trans (h : Fr S a b) (k : Fr S' b c) (hs : ∀ x, x < a.heap.size → S' x → S x) : Fr S a c :=
  ⟨k.os.trans h.os, k.tape.trans h.tape, k.output.trans h.output, Nat.le_trans h.size k.size, fun x hx hn =>
    (k.block x (Nat.lt_of_lt_of_le hx h.size) (fun hy => hn (hs x hx hy))).trans (h.block x hx hn)⟩
theorem of_below (h : Below a.heap.size a b) (S : Nat → Prop) : Fr S a b := ⟨h.os, h.tape, h.output, h.size, fun k hk _ => h.block k hk⟩
theorem of_grown {row : Option Nat} (h : a.grownBy b row) (hr : ∀ k, k < a.heap.size → row = some k → S k) : Fr S a b :=
  ⟨h.os, h.tape, h.output, h.size, fun k hk hn => h.block k hk (fun e => hn (hr k hk e.symm))⟩
theorem below {B : Nat} (h : Fr S a b) (hB : B ≤ a.heap.size) (hs : ∀ k, k < B → ¬ S k) : Below B a b := ⟨h.os, h.tape, h.output, h.size, fun k hk => h.block k (by omega) (hs k hk)⟩
theorem then_below (h : Fr S a b) (k : Below b.heap.size b c) : Fr S a c := h.trans (of_below k S) (fun _ _ h => h)
theorem drew (h : Fr S a b) : Fr S a b.drew := ⟨h.os, h.tape, h.output, h.size, h.block⟩
theorem drewN (h : Fr S a b) (n : Nat) : Fr S a (b.drewN n) := ⟨h.os, h.tape, h.output, h.size, h.block⟩
theorem alloc (h : Fr S a b) (o : Obj) : Fr S a (b.alloc o) :=
  h.then_below ((Below.refl _ _).alloc (Nat.le_refl _) o)
theorem setCell (h : Fr S a b) {p : Addr} (hp : p.block < a.heap.size → S p.block) (u : Value) : Fr S a (b.setCell p u) :=
  ⟨h.os, h.tape, h.output, by simpa [World.setCell] using h.size, fun k hk hn => (Below.heap_setCell b p u k (by rintro rfl; exact hn (hp hk))).trans (h.block k hk hn)⟩
theorem setAt (h : Fr S a b) (x o : Nat) (hx : S x) (u : Value) : Fr S a (b.setCell ⟨x, o, none⟩ u) := h.setCell (p := ⟨x, o, none⟩) (fun _ => hx) u
theorem cell (h : Fr S a b) {p : Addr} (hp : p.block < a.heap.size) (hn : ¬ S p.block) : b.cell? p = a.cell? p := World.cell?_of_block (w := a) (h.block p.block hp hn)
theorem frozen (h : Fr S a b) {p : Addr} (hp : p.block < a.heap.size) (hn : ¬ S p.block) : b.frozen? p = a.frozen? p := World.frozen?_of_block (w := a) (h.block p.block hp hn)
end Fr

/-- The slice's address A reads, n elements of so many cells, as the cells xs; they lie in a block of Z. -/
def Rd (w : World) (Z : Nat → Prop) (size : Nat) (A : Option Addr) (n : Nat) (xs : List Value) : Prop :=
  xs.length = n * size ∧ (0 < n * size → ∃ b off, A = some ⟨b, off, none⟩ ∧ Z b ∧ b < w.heap.size ∧ ∀ j u, xs[j]? = some u → w.cell? ⟨b, off + j, none⟩ = some u)

namespace Rd
variable {w w' : World} {Z Z' S : Nat → Prop} {size n : Nat} {A : Option Addr} {xs : List Value}
theorem nil : Rd w Z size A 0 [] := ⟨by simp, fun h => by simp at h⟩
theorem fr (h : Rd w Z size A n xs) (k : Fr S w w') (hs : ∀ b, b < w.heap.size → Z b → ¬ S b) : Rd w' Z size A n xs :=
  ⟨h.1, fun hn => by
    obtain ⟨b, off, e, hz, hb, hc⟩ := h.2 hn
    exact ⟨b, off, e, hz, Nat.lt_of_lt_of_le hb k.size, fun j u hu => (k.cell (p := ⟨b, off + j, none⟩) hb (hs b hb hz)).trans (hc j u hu)⟩⟩
theorem below (h : Rd w Z size A n xs) (k : Below w.heap.size w w') : Rd w' Z size A n xs := h.fr (Fr.of_below k (fun _ => False)) (fun _ _ _ h => h)
theorem mono (h : Rd w Z size A n xs) (hz : ∀ b, b < w.heap.size → Z b → Z' b) : Rd w Z' size A n xs :=
  ⟨h.1, fun hn => by
    obtain ⟨b, off, e, hz', hb, hc⟩ := h.2 hn
    exact ⟨b, off, e, hz b hb hz', hb, hc⟩⟩
theorem drew (h : Rd w Z size A n xs) : Rd w.drew Z size A n xs := h
theorem drewN (h : Rd w Z size A n xs) (k : Nat) : Rd (w.drewN k) Z size A n xs := h
theorem alloc (h : Rd w Z size A n xs) (o : Obj) : Rd (w.alloc o) Z size A n xs := h.below ((Below.refl _ _).alloc (Nat.le_refl _) o)
/-- cell j of all -/
theorem atj {j : Nat} {u : Value} (h : Rd w Z size A n xs) (hu : xs[j]? = some u) : ∃ b off, A = some ⟨b, off, none⟩ ∧ Z b ∧ b < w.heap.size ∧ w.cell? ⟨b, off + j, none⟩ = some u := by
  have hj := (List.getElem?_eq_some_iff.1 hu).1
  have := h.1
  obtain ⟨b, off, e, hz, hb, hc⟩ := h.2 (by omega)
  exact ⟨b, off, e, hz, hb, hc j u hu⟩
/-- element k of a mapped list -/
theorem atm {α : Type} {f : α → Value} {l : List α} {k : Nat} (h : Rd w Z 1 A n (l.map f)) (hk : k < l.length) : ∃ b off, A = some ⟨b, off, none⟩ ∧ Z b ∧ b < w.heap.size ∧ w.cell? ⟨b, off + k, none⟩ = some (f l[k]) :=
  h.atj (by rw [List.getElem?_map, List.getElem?_eq_getElem hk]; rfl)
theorem some_of (h : Rd w Z size A n xs) (hn : 0 < n * size) : ∃ b off, A = some ⟨b, off, none⟩ ∧ Z b ∧ b < w.heap.size := by
  obtain ⟨b, off, e, hz, hb, _⟩ := h.2 hn
  exact ⟨b, off, e, hz, hb⟩
theorem take (h : Rd w Z size A n xs) {k : Nat} (hk : k ≤ n) : Rd w Z size A k (xs.take (k * size)) := by
  have hle : k * size ≤ n * size := Nat.mul_le_mul_right _ hk
  refine ⟨by rw [List.length_take, h.1]; omega, fun hn => ?_⟩
  obtain ⟨b, off, e, hz, hb, hc⟩ := h.2 (by omega)
  refine ⟨b, off, e, hz, hb, fun j u hu => hc j u ?_⟩
  rw [List.getElem?_take] at hu
  split at hu
  · exact hu
  · cases hu
/-- s[k:] -/
theorem drop (h : Rd w Z size A n xs) {k cap : Nat} (hk : k ≤ n) (hc : n ≤ cap) : Rd w Z size (if cap = k then A else A.map (·.add (k * size))) (n - k) (xs.drop (k * size)) := by
  refine ⟨by rw [List.length_drop, h.1, Nat.sub_mul], fun hn => ?_⟩
  have hkn : k < n := by
    rcases Nat.lt_or_ge k n with h1 | h1
    · exact h1
    · rw [show n - k = 0 by omega] at hn; simp at hn
  have hs : 0 < size := Nat.pos_of_mul_pos_left hn
  obtain ⟨b, off, rfl, hz, hb, hcell⟩ := h.2 (Nat.mul_pos (by omega) hs)
  rw [if_neg (by omega)]
  refine ⟨b, off + k * size, ?_, hz, hb, fun j u hu => ?_⟩
  · rw [Option.map_some, add_none]
  · rw [Nat.add_assoc]
    exact hcell _ u (by rw [← hu, List.getElem?_drop])
theorem of_own {base e : Nat} {c : Nat} (h : w.ownsRow base e size (.slice A n c) n xs) (hz : ∀ b, ablk A = some b → b < w.heap.size → Z b) : Rd w Z size A n xs := by
  refine ⟨h.1, fun hn => ?_⟩
  have hn' : 0 < n := Nat.pos_of_mul_pos_right hn
  obtain ⟨g, cap, hv, _, hlt⟩ := h.form hn'
  have hA : A = some ⟨g, 0, none⟩ := by injection hv
  subst hA
  refine ⟨g, 0, rfl, hz g rfl hlt, hlt, fun j u hu => ?_⟩
  have := h.cells (g := g) rfl j u hu
  rwa [add_none] at this
theorem of_block {b : Nat} {t : TypeId} {cs : Array Value} {fr : Nat × Nat} (h : w.heap[b]? = some (.cells cs t fr)) (hz : Z b) (hs : cs.size = n * size) : Rd w Z size (some ⟨b, 0, none⟩) n cs.toList := by
  refine ⟨by simpa using hs, fun _ => ⟨b, 0, rfl, hz, (Array.getElem?_eq_some_iff.1 h).1, fun j u hu => ?_⟩⟩
  rw [cell_of_row w b _ cs t fr h]
  simpa using hu
/-- a slice's literal, just laid -/
theorem lit {t : TypeId} {cs : Array Value} {b : Nat} (hs : cs.toList = xs) (hn : xs.length = n * size) (hb : b = w.heap.size) : Rd (w.alloc (.cells cs t)) (fun b => w.heap.size ≤ b) size (some ⟨b, 0, none⟩) n xs := by
  subst hs hb
  exact of_block (heap_alloc_new w _) (Nat.le_refl _) (by simpa using hn)
end Rd

/-- Block g is just the cells cs of element type t, none frozen. -/
def Blk (w : World) (g : Nat) (t : TypeId) (cs : Array Value) : Prop := w.heap[g]? = some (.cells cs t (0, 0))

namespace Blk
variable {w w' : World} {g : Nat} {t : TypeId} {cs : Array Value}
theorem lt (h : Blk w g t cs) : g < w.heap.size := (Array.getElem?_eq_some_iff.1 h).1
theorem cell (h : Blk w g t cs) (i : Nat) : w.cell? ⟨g, i, none⟩ = cs[i]? := cell_of_row w g i cs t (0, 0) h
theorem frozen (h : Blk w g t cs) (i : Nat) : w.frozen? ⟨g, i, none⟩ = false := by
  unfold Blk at h
  simp [World.frozen?, h]
theorem new (w : World) (t : TypeId) (cs : Array Value) : Blk (w.alloc (.cells cs t)) w.heap.size t cs := heap_alloc_new w _
theorem drew (h : Blk w g t cs) : Blk w.drew g t cs := h
theorem drewN (h : Blk w g t cs) (n : Nat) : Blk (w.drewN n) g t cs := h
theorem alloc (h : Blk w g t cs) (o : Obj) : Blk (w.alloc o) g t cs := (Below.heap_alloc w o g h.lt).trans h
theorem set_ (h : Blk w g t cs) (i : Nat) (u : Value) : Blk (w.setCell ⟨g, i, none⟩ u) g t (cs.setIfInBounds i u) := by
  unfold Blk at h ⊢
  simp [World.setCell, Array.getElem?_modify, h]
theorem far (h : Blk w g t cs) {p : Addr} (hp : g ≠ p.block) (u : Value) : Blk (w.setCell p u) g t cs := (Below.heap_setCell w p u g hp).trans h
theorem fr {S : Nat → Prop} (h : Blk w g t cs) (k : Fr S w w') (hs : ¬ S g) : Blk w' g t cs := (k.block g h.lt hs).trans h
theorem below (h : Blk w g t cs) (k : Below w.heap.size w w') : Blk w' g t cs := (k.block g h.lt).trans h
theorem grown {row : Option Nat} (h : Blk w g t cs) (hb : w.grownBy w' row) (hg : row ≠ some g) : Blk w' g t cs := (hb.block g h.lt (fun e => hg e.symm)).trans h
theorem ne_ {g' : Nat} {t' : TypeId} {cs' : Array Value} (h : Blk w g t cs) (h' : Blk w g' t' cs') (hne : t ≠ t') : g ≠ g' := by
  rintro rfl
  unfold Blk at h h'
  rw [h] at h'
  injection h' with h'
  injection h' with _ ht
  exact hne ht
theorem own_ne {base : Nat} {e : TypeId} {size n : Nat} {v : Value} {xs : List Value} (hg : Blk w g t cs) (h : w.ownsRow base e size v n xs) (hne : e ≠ t) : v.ownBlock ≠ some g := by
  rcases h.2 with ⟨rfl, _⟩ | ⟨g', cap, cur, rfl, _, hh, _⟩
  · simp [Value.ownBlock]
  · intro he
    have : g' = g := by simpa [Value.ownBlock] using he
    subst this
    exact Blk.ne_ (t := e) hh hg hne rfl
end Blk

theorem own_fr {w w' : World} {base : Nat} {e : TypeId} {size n : Nat} {v : Value} {xs : List Value} {S : Nat → Prop} (h : w.ownsRow base e size v n xs) (k : Fr S w w') (hs : ∀ g, v.ownBlock = some g → ¬ S g) : w'.ownsRow base e size v n xs := by
  refine ⟨h.1, ?_⟩
  rcases h.2 with hn | ⟨g, cap, cur, rfl, hb, hg, r⟩
  · exact .inl hn
  · exact .inr ⟨g, cap, cur, rfl, hb, by rw [k.block g (Array.getElem?_eq_some_iff.1 hg).1 (hs g rfl)]; exact hg, r⟩
theorem own_below {w w' : World} {base : Nat} {e : TypeId} {size n : Nat} {v : Value} {xs : List Value} (h : w.ownsRow base e size v n xs) (k : Below w.heap.size w w') : w'.ownsRow base e size v n xs :=
  own_fr h (Fr.of_below k (fun _ => False)) (fun _ _ h => h)
theorem own_form {w : World} {base : Nat} {e : TypeId} {size n : Nat} {v : Value} {xs : List Value} (h : w.ownsRow base e size v n xs) : ∃ A c, v = .slice A n c ∧ n ≤ c ∧ c ≤ maxLen ∧ (∀ b, ablk A = some b → base ≤ b ∧ b < w.heap.size ∧ v.ownBlock = some b) ∧ (A = none → n = 0 ∧ c = 0) ∧ (∀ a, A = some a → a = ⟨a.block, 0, none⟩) := by
  rcases h.2 with ⟨rfl, rfl⟩ | ⟨g, cap, cur, rfl, hb, hg, hn, hm, r⟩
  · exact ⟨none, 0, rfl, Nat.le_refl _, by simp [maxLen], by simp [ablk], by simp, by simp⟩
  · exact ⟨some ⟨g, 0, none⟩, cap, rfl, hn, hm, by rintro b hb'; simp [ablk] at hb'; subst hb'; exact ⟨hb, (Array.getElem?_eq_some_iff.1 hg).1, rfl⟩, by simp, by simp⟩
theorem own_base {w : World} {base base' : Nat} {e : TypeId} {size n : Nat} {v : Value} {xs : List Value} (h : w.ownsRow base e size v n xs) (hb : ∀ g, v.ownBlock = some g → base' ≤ g) : w.ownsRow base' e size v n xs := by
  refine ⟨h.1, ?_⟩
  rcases h.2 with hn | ⟨g, cap, cur, rfl, _, r⟩
  · exact .inl hn
  · exact .inr ⟨g, cap, cur, rfl, hb g rfl, r⟩
section
variable {P : Program} (w : World)

theorem run_append_of_nil (base : Nat) (t ty e : TypeId) (i : TypeInfo) (size : Nat) (ht : P.underlying t = some (.slice e)) (hi : P.info? e = some i)
    (v : Value) (n : Nat) (xs : List Value) (hown : w.ownsRow base e size v n xs) (c : Nat) : (Builtin.append_ #[t, t] ty #[v, .slice none 0 c]).run P w = .ok v w := by
  rcases hown.2 with ⟨rfl, rfl⟩ | ⟨g, cap, cur, rfl, _, _, hnc, _⟩
  · simp [Builtin.append_, run_underlying ht, sizeOf, typeInfo, hi, Builtin.lenOf, Builtin.firstCells]
  · simp [Builtin.append_, run_underlying ht, sizeOf, typeInfo, hi, Builtin.lenOf, Builtin.firstCells, hnc, storeCells]

/-- append onto an owned row, whatever the source is -/
theorem run_append_any (base : Nat) (t ty e : TypeId) (i : TypeInfo) (z : Value) (size bytes : Nat) (ht : P.underlying t = some (.slice e)) (hi : P.info? e = some i) (hz : i.zero = some z)
    (hsize : i.size = size) (hby : i.bytes = bytes) (hzs : z.cells.size = size) (hsz : 0 < size)
    (v : Value) (n : Nat) (xs : List Value) (hown : w.ownsRow base e size v n xs)
    (Z : Nat → Prop) (A : Option Addr) (m c : Nat) (news : List Value) (hr : Rd w Z size A m news) (h1 : ∀ u ∈ news, u.oneCell' = true)
    (h63 : n + m ≤ maxLen) (hbytes : (n + m) * bytes ≤ 140737488355328) (hbase : base ≤ w.heap.size) :
    ∃ v' w', (Builtin.append_ #[t, t] ty #[v, .slice A m c]).run P w = .ok v' w' ∧ w'.ownsRow base e size v' (n + m) (xs ++ news) ∧ w.grownBy w' v.ownBlock ∧
      (v'.ownBlock = v.ownBlock ∨ v'.ownBlock = some w.heap.size) := by
  rcases A with _ | ad
  · have hm : m = 0 := by
      rcases Nat.eq_zero_or_pos m with h0 | h0
      · exact h0
      · obtain ⟨b, off, h, _⟩ := hr.2 (Nat.mul_pos h0 hsz)
        cases h
    subst hm
    have hn : news = [] := List.eq_nil_of_length_eq_zero (by simpa using hr.1)
    subst hn
    exact ⟨v, w, run_append_of_nil w base t ty e i size ht hi v n xs hown c, by simpa using hown, World.grownBy.refl w _, .inl rfl⟩
  · have hcells : ∀ j u, news[j]? = some u → w.cell? (ad.add j) = some u := by
      intro j u hu
      obtain ⟨b, off, h, _, _, hc⟩ := hr.atj hu
      injection h with h
      subst h
      rw [add_none]
      exact hc
    obtain ⟨v', w', hrun, h2, h3, _, h5⟩ := run_append_own_at (P := P) w base t ty e i z size bytes ht hi hz hsize hby hzs hsz v n xs hown ad m c news hr.1 hcells h1 h63 hbytes hbase
    exact ⟨v', w', hrun, h2, h3, h5⟩

theorem wp_append_any {o : Oper} {a : Act} {K : Act → World → Prop} {Q : Exit → Act → World → Prop} (s x : Operand) (t : TypeId)
    (ho : o.op = .call { callee := .builtin .append, args := #[s, x], argTypes := #[t, t] })
    (base : Nat) (e : TypeId) (i : TypeInfo) (z : Value) (size bytes : Nat) (ht : P.underlying t = some (.slice e)) (hi : P.info? e = some i) (hz : i.zero = some z)
    (hsize : i.size = size) (hby : i.bytes = bytes) (hzs : z.cells.size = size) (hsz : 0 < size)
    (v : Value) (n : Nat) (xs : List Value) (hs : a.eval s = v) (hown : w.ownsRow base e size v n xs)
    (Z : Nat → Prop) (A : Option Addr) (m c : Nat) (news : List Value) (hx : a.eval x = .slice A m c) (hr : Rd w Z size A m news) (h1 : ∀ u ∈ news, u.oneCell' = true)
    (h63 : n + m ≤ maxLen) (hbytes : (n + m) * bytes ≤ 140737488355328) (hbase : base ≤ w.heap.size)
    (h : ∀ v' w', w'.ownsRow base e size v' (n + m) (xs ++ news) → w.grownBy w' v.ownBlock → (v'.ownBlock = v.ownBlock ∨ v'.ownBlock = some w.heap.size) → K (a.put o.dst v') w') : o.wp P a w K Q := by
  obtain ⟨v', w', hrun, h2, h3, h4⟩ := run_append_any (P := P) w base t o.type e i z size bytes ht hi hz hsize hby hzs hsz v n xs hown Z A m c news hr h1 h63 hbytes hbase
  unfold Oper.wp execOp
  simp only [ho, resolve, invoke, builtin, Sem.run_bind, Sem.run_pure, Result.andThen_ok, List.map_toArray, List.map_cons, List.map_nil, hs, hx, hrun]
  exact h v' w' h2 h3 h4

theorem wpList_append_any {ops : Array Oper} {rest : List Oper} {o : Oper} {a : Act} {Q : Exit → Act → World → Prop} (hgd : o.guard = none) (s x : Operand) (t : TypeId)
    (ho : o.op = .call { callee := .builtin .append, args := #[s, x], argTypes := #[t, t] })
    (base : Nat) (e : TypeId) (i : TypeInfo) (z : Value) (size bytes : Nat) (ht : P.underlying t = some (.slice e)) (hi : P.info? e = some i) (hz : i.zero = some z)
    (hsize : i.size = size) (hby : i.bytes = bytes) (hzs : z.cells.size = size) (hsz : 0 < size)
    (v : Value) (n : Nat) (xs : List Value) (hs : a.eval s = v) (hown : w.ownsRow base e size v n xs)
    (Z : Nat → Prop) (A : Option Addr) (m c : Nat) (news : List Value) (hx : a.eval x = .slice A m c) (hr : Rd w Z size A m news) (h1 : ∀ u ∈ news, u.oneCell' = true)
    (h63 : n + m ≤ maxLen) (hbytes : (n + m) * bytes ≤ 140737488355328) (hbase : base ≤ w.heap.size)
    (h : ∀ v' w', w'.ownsRow base e size v' (n + m) (xs ++ news) → w.grownBy w' v.ownBlock → (v'.ownBlock = v.ownBlock ∨ v'.ownBlock = some w.heap.size) → wpList P ops Q rest (a.put o.dst v') w') : wpList P ops Q (o :: rest) a w :=
  wpList_plain hgd fun _ hK => wp_append_any w s x t ho base e i z size bytes ht hi hz hsize hby hzs hsz v n xs hs hown Z A m c news hx hr h1 h63 hbytes hbase fun v' w' h2 h3 h4 => hK _ _ (h v' w' h2 h3 h4)

theorem step_append_any {ops : Array Oper} {o : Oper} {a : Act} {K : Act → World → Prop} {Q : Exit → Act → World → Prop} {E : Prop} (hgd : o.guard = none) (s x : Operand) (t : TypeId)
    (ho : o.op = .call { callee := .builtin .append, args := #[s, x], argTypes := #[t, t] })
    (base : Nat) (e : TypeId) (i : TypeInfo) (z : Value) (size bytes : Nat) (ht : P.underlying t = some (.slice e)) (hi : P.info? e = some i) (hz : i.zero = some z)
    (hsize : i.size = size) (hby : i.bytes = bytes) (hzs : z.cells.size = size) (hsz : 0 < size)
    (v : Value) (n : Nat) (xs : List Value) (hs : a.eval s = v) (hown : w.ownsRow base e size v n xs)
    (Z : Nat → Prop) (A : Option Addr) (m c : Nat) (news : List Value) (hx : a.eval x = .slice A m c) (hr : Rd w Z size A m news) (h1 : ∀ u ∈ news, u.oneCell' = true)
    (h63 : n + m ≤ maxLen) (hbytes : (n + m) * bytes ≤ 140737488355328) (hbase : base ≤ w.heap.size)
    (h : ∀ v' w', w'.ownsRow base e size v' (n + m) (xs ++ news) → w.grownBy w' v.ownBlock → (v'.ownBlock = v.ownBlock ∨ v'.ownBlock = some w.heap.size) → K (a.put o.dst v') w') :
    if Region.wanted o (yielded ops a.tmps) = true then Oper.wp P o a w K Q else E := by
  have hw : Region.wanted o (yielded ops a.tmps) = true := by simp [Region.wanted, hgd]
  rw [if_pos hw]
  exact wp_append_any w s x t ho base e i z size bytes ht hi hz hsize hby hzs hsz v n xs hs hown Z A m c news hx hr h1 h63 hbytes hbase h
end

/-- a byte as a value -/
def bv (x : UInt8) : Value := .int .u8 (x.toNat : Int)
theorem bv_one (l : List UInt8) : ∀ u ∈ l.map bv, u.oneCell' = true := by
  intro u hu
  obtain ⟨x, _, rfl⟩ := List.mem_map.1 hu
  rfl
/-- the slice's address A reads as the bytes l -/
def By (w : World) (Z : Nat → Prop) (A : Option Addr) (l : List UInt8) : Prop := Rd w Z 1 A l.length (l.map bv)
/-- v owns a row of the bytes l -/
def OwB (w : World) (base : Nat) (v : Value) (l : List UInt8) : Prop := w.ownsRow base 5 1 v l.length (l.map bv)
theorem u8_info : (Tryz.prog.info? 5).map (fun i => (i.zero, i.size, i.bytes)) = some (some (.int .u8 0), 1, 1) := by kernel_rfl

theorem OwB.nil (w : World) (base : Nat) : OwB w base (.slice none 0 0) [] := World.ownsRow_nil _ _ _ _
theorem OwB.below {w w' : World} {base : Nat} {v : Value} {l : List UInt8} (h : OwB w base v l) (k : Below w.heap.size w w') : OwB w' base v l := own_below h k
theorem OwB.fr {w w' : World} {base : Nat} {v : Value} {l : List UInt8} {S : Nat → Prop} (h : OwB w base v l) (k : Fr S w w') (hs : ∀ g, v.ownBlock = some g → ¬ S g) : OwB w' base v l := own_fr h k hs
theorem OwB.alloc {w : World} {base : Nat} {v : Value} {l : List UInt8} (h : OwB w base v l) (o : Obj) : OwB (w.alloc o) base v l := World.ownsRow.alloc h o
theorem OwB.lit1 (w : World) {base : Nat} {b : UInt8} {x : Int} (hx : bv b = .int .u8 x) (hb : base ≤ w.heap.size) : OwB (w.alloc (.cells #[.int .u8 x] 5)) base (.slice (some ⟨w.heap.size, 0, none⟩) 1 1) [b] := by
  have := World.ownsRow_lit (base := base) (e := 5) (size := 1) w #[.int .u8 x] 1 hb (by simp [maxLen]) (by simp)
  unfold OwB
  rw [List.map_cons, List.map_nil, hx]
  exact this
/-- the form of an owned row of bytes -/
theorem OwB.form {w : World} {base : Nat} {v : Value} {l : List UInt8} (h : OwB w base v l) : ∃ A c, v = .slice A l.length c ∧ l.length ≤ c ∧ c ≤ maxLen ∧ (∀ b, ablk A = some b → base ≤ b ∧ b < w.heap.size ∧ v.ownBlock = some b) := by
  obtain ⟨A, c, h1, h2, h3, h4, _⟩ := own_form h
  exact ⟨A, c, h1, h2, h3, h4⟩
theorem OwB.rd {w : World} {base : Nat} {A : Option Addr} {c : Nat} {l : List UInt8} (h : OwB w base (.slice A l.length c) l) : By w (fun b => ablk A = some b) A l := Rd.of_own h (fun _ hb _ => hb)
theorem By.below {w w' : World} {Z : Nat → Prop} {A : Option Addr} {l : List UInt8} (h : By w Z A l) (k : Below w.heap.size w w') : By w' Z A l := Rd.below h k
theorem By.alloc {w : World} {Z : Nat → Prop} {A : Option Addr} {l : List UInt8} (h : By w Z A l) (o : Obj) : By (w.alloc o) Z A l := Rd.alloc h o
theorem By.fr {w w' : World} {Z S : Nat → Prop} {A : Option Addr} {l : List UInt8} (h : By w Z A l) (k : Fr S w w') (hs : ∀ b, b < w.heap.size → Z b → ¬ S b) : By w' Z A l := Rd.fr h k hs
theorem By.mono {w : World} {Z Z' : Nat → Prop} {A : Option Addr} {l : List UInt8} (h : By w Z A l) (hz : ∀ b, b < w.heap.size → Z b → Z' b) : By w Z' A l := Rd.mono h hz

theorem wpList_append_by {w : World} {ops : Array Oper} {rest : List Oper} {o : Oper} {a : Act} {Q : Exit → Act → World → Prop} (hgd : o.guard = none) (s x : Operand)
    (ho : o.op = .call { callee := .builtin .append, args := #[s, x], argTypes := #[29, 29] })
    {base : Nat} {v : Value} {l m : List UInt8} {Z : Nat → Prop} {A : Option Addr} {c : Nat} (hs : a.eval s = v) (hown : OwB w base v l) (hx : a.eval x = .slice A m.length c) (hr : By w Z A m)
    (hsum : l.length + m.length ≤ 140737488355328) (hbase : base ≤ w.heap.size)
    (h : ∀ (L : List UInt8) (A' : Option Addr) (c' : Nat) (w' : World), Hid (L = l ++ m) → OwB w' base (.slice A' L.length c') L → w.grownBy w' v.ownBlock → ((Value.slice A' L.length c').ownBlock = v.ownBlock ∨ (Value.slice A' L.length c').ownBlock = some w.heap.size) → wpList Tryz.prog ops Q rest (a.put o.dst (.slice A' L.length c')) w') : wpList Tryz.prog ops Q (o :: rest) a w := by
  obtain ⟨i0, hi0, hz0, hz1, hz2⟩ := info_parts u8_info
  refine wpList_append_any w hgd s x _ ho base 5 i0 _ 1 1 Tryz.underlying29 hi0 hz0 hz1 hz2 rfl (by omega) v l.length (l.map bv) hs hown Z A m.length c (m.map bv) hx hr (bv_one m) (by simp only [maxLen]; omega) (by omega) hbase ?_
  intro v' w' h1 h2 h3
  have ho : OwB w' base v' (l ++ m) := by
    unfold OwB
    rw [List.length_append, List.map_append]
    exact h1
  obtain ⟨A', c', rfl, _⟩ := ho.form
  exact h (l ++ m) A' c' w' rfl ho h2 h3
theorem step_append_by {w : World} {ops : Array Oper} {o : Oper} {a : Act} {K : Act → World → Prop} {Q : Exit → Act → World → Prop} {E : Prop} (hgd : o.guard = none) (s x : Operand)
    (ho : o.op = .call { callee := .builtin .append, args := #[s, x], argTypes := #[29, 29] })
    {base : Nat} {v : Value} {l m : List UInt8} {Z : Nat → Prop} {A : Option Addr} {c : Nat} (hs : a.eval s = v) (hown : OwB w base v l) (hx : a.eval x = .slice A m.length c) (hr : By w Z A m)
    (hsum : l.length + m.length ≤ 140737488355328) (hbase : base ≤ w.heap.size)
    (h : ∀ (L : List UInt8) (A' : Option Addr) (c' : Nat) (w' : World), Hid (L = l ++ m) → OwB w' base (.slice A' L.length c') L → w.grownBy w' v.ownBlock → ((Value.slice A' L.length c').ownBlock = v.ownBlock ∨ (Value.slice A' L.length c').ownBlock = some w.heap.size) → K (a.put o.dst (.slice A' L.length c')) w') :
    if Region.wanted o (yielded ops a.tmps) = true then Oper.wp Tryz.prog o a w K Q else E := by
  obtain ⟨i0, hi0, hz0, hz1, hz2⟩ := info_parts u8_info
  refine step_append_any w hgd s x _ ho base 5 i0 _ 1 1 Tryz.underlying29 hi0 hz0 hz1 hz2 rfl (by omega) v l.length (l.map bv) hs hown Z A m.length c (m.map bv) hx hr (bv_one m) (by simp only [maxLen]; omega) (by omega) hbase ?_
  intro v' w' h1 h2 h3
  have ho : OwB w' base v' (l ++ m) := by
    unfold OwB
    rw [List.length_append, List.map_append]
    exact h1
  obtain ⟨A', c', rfl, _⟩ := ho.form
  exact h (l ++ m) A' c' w' rfl ho h2 h3

/-- string(b) -/
theorem conv_by {w : World} {Z : Nat → Prop} {A : Option Addr} {l : List UInt8} (h : By w Z A l) (c : Nat) :
    (convert 29 9 (.slice A l.length c)).run Tryz.prog w = .ok (.string ⟨l.toArray⟩) w := by
  rcases A with _ | a
  · have hl : l = [] := by
      rcases l with _ | ⟨x, l⟩
      · rfl
      · obtain ⟨b, off, e, _⟩ := h.2 (by simp); cases e
    subst hl
    rw [run_convert_bytes_nil w 29 5 Tryz.underlying29 Tryz.underlying5 _ _ 9 Tryz.underlying9]
    rfl
  · rw [run_convert_bytes_string w 29 9 5 _ _ c Tryz.underlying29 Tryz.underlying5 Tryz.underlying9]
    have hn : l.map bv = (l.map fun x => (x.toNat : Int)).map (Value.int .u8) := by simp [bv, Function.comp_def]
    have hload : (loadCells a l.length).run Tryz.prog w = .ok ((l.map fun x => (x.toNat : Int)).map (Value.int .u8)).toArray w := by
      rw [← hn]
      have := run_loadCells_list (P := Tryz.prog) w a (l.map bv) (fun j v hj => by
        obtain ⟨b, off, e, _, _, hc⟩ := Rd.atj h hj
        injection e with e
        subst e
        rw [add_none]
        exact hc)
      rw [List.length_map] at this
      exact this
    rw [run_bytesToString w a l.length c _ hload, foldl_push_bytes]
    congr 2
    apply ByteArray.ext
    show ByteArray.empty.data ++ _ = _
    rw [show ByteArray.empty.data = #[] from rfl]
    simp [Function.comp_def]

/-- a byte slice as a value, and what it reads as -/
structure BV where
  A : Option Addr
  c : Nat
  l : List UInt8
abbrev BV.v (x : BV) : Value := .slice x.A x.l.length x.c
def BV.ok (w : World) (Z : Nat → Prop) (x : BV) : Prop := By w Z x.A x.l ∧ x.l.length ≤ x.c ∧ x.c ≤ maxLen
theorem BV.ok.by_ {w : World} {Z : Nat → Prop} {x : BV} (h : x.ok w Z) : By w Z x.A x.l := h.1
theorem BV.ok.fr {w w' : World} {Z S : Nat → Prop} {x : BV} (h : x.ok w Z) (k : Fr S w w') (hs : ∀ b, b < w.heap.size → Z b → ¬ S b) : x.ok w' Z := ⟨h.1.fr k hs, h.2⟩
theorem BV.ok.below {w w' : World} {Z : Nat → Prop} {x : BV} (h : x.ok w Z) (k : Below w.heap.size w w') : x.ok w' Z := ⟨h.1.below k, h.2⟩
theorem BV.ok.mono {w : World} {Z Z' : Nat → Prop} {x : BV} (h : x.ok w Z) (hz : ∀ b, b < w.heap.size → Z b → Z' b) : x.ok w Z' := ⟨h.1.mono hz, h.2⟩
/-- a fresh owned row as a byte slice -/
theorem OwB.bv_ {w : World} {base : Nat} {v : Value} {l : List UInt8} (h : OwB w base v l) : ∃ x : BV, v = x.v ∧ x.l = l ∧ x.ok w (fun b => v.ownBlock = some b) ∧ OwB w base x.v l := by
  obtain ⟨A, c, rfl, h1, h2, h3⟩ := h.form
  exact ⟨⟨A, c, l⟩, rfl, rfl, ⟨h.rd.mono (fun b hb hz => (h3 b hz).2.2), h1, h2⟩, h⟩
def u64v (n : Nat) : Value := .int .u64 (n : Int)
end Go.Proofs.YtjcfphdjgagimaaGreatDoor

/- Arguments opened: slices of whatever, structs, with the form's own reach. -/
namespace Go.Proofs.YtjcfphdjgagimaaGreatDoor
open Go.RowKit Go.WideShapes Go.ChangeShapes Go.ChangeAt Go.Deep

theorem bv_of {m : Nat} (h : m < 256) : bv (UInt8.ofNat m) = .int .u8 (m : Int) := by
  unfold bv
  rw [UInt8.toNat_ofNat', Nat.mod_eq_of_lt h]

section
variable {H : Type} {enc : TypeId × Value → H} {w : World} {spare : Nat → Bool} {held : Bool}

/-- a reading within the form's reach -/
def Within (t : TypeId) (x : DataW H × List MemPlace) : Prop := ∀ k ∈ x.1.weights Tryz.prog t, k ≤ reachBytes

theorem weightsAll_mem {P : Program} {e : TypeId} {d : DataW H} {k : Nat} (hk : k ∈ d.weights P e) : ∀ {l : List (DataW H)}, d ∈ l → k ∈ DataW.weightsAll P e l
  | x :: l, h => by
    rw [DataW.weightsAll, List.mem_append]
    rcases List.mem_cons.1 h with rfl | h
    · exact .inl hk
    · exact .inr (weightsAll_mem hk h)

theorem pick_list {α : Type} {p : Nat → α → Prop} : ∀ n, (∀ i, i < n → ∃ a, p i a) → ∃ l : List α, l.length = n ∧ ∀ i (hi : i < l.length), p i l[i]
  | 0, _ => ⟨[], rfl, by simp⟩
  | k + 1, h => by
    obtain ⟨l, h1, h2⟩ := pick_list k (fun i hi => h i (by omega))
    obtain ⟨al, hal⟩ := h k (by omega)
    refine ⟨l ++ [al], by simp [h1], fun i hi => ?_⟩
    rcases Nat.lt_or_ge i l.length with hlt | hge
    · rw [List.getElem_append_left hlt]; exact h2 i hlt
    · have : i = k := by simp at hi; omega
      subst this
      rw [List.getElem_append_right (by omega)]
      simpa [h1] using hal

theorem flat_at {α : Type} (f : α → List Value) (k : Nat) : ∀ (l : List α), (∀ x ∈ l, (f x).length = k) → ∀ (i j : Nat) (hi : i < l.length), j < k → (l.flatMap f)[i * k + j]? = (f l[i])[j]?
  | x :: l, h, 0, j, _, hj => by
    rw [List.flatMap_cons, List.getElem?_append_left (by rw [h x (by simp)]; omega)]
    simp
  | x :: l, h, i + 1, j, hi, hj => by
    have hx := h x (by simp)
    have e : (i + 1) * k + j - (f x).length = i * k + j := by rw [hx, Nat.add_mul]; omega
    rw [List.flatMap_cons, List.getElem?_append_right (by rw [hx, Nat.add_mul]; omega), e, flat_at f k l (fun y hy => h y (by simp [hy])) i j (by simpa using hi) hj]
    simp

theorem open_sl {α : Type} (f : α → List Value) (ok : α → Prop) (sz by_ : Nat) {t e : TypeId} (ht : Tryz.prog.underlying t = some (.slice e)) (hC : Tryz.prog.cellsOf e = sz) (hB : Tryz.prog.bytesOf e = by_) (hsz : 0 < sz)
    (hel : ∀ (n : Nat) (cs : List Value) (x : DataW H × List MemPlace), DataW.trod enc Tryz.prog w 0 spare held n e cs = some x → Within e x → ∃ a, cs = f a ∧ ok a)
    {n : Nat} {v : Value} {x : DataW H × List MemPlace} (h : DataW.trod enc Tryz.prog w 0 spare held n t [v] = some x) (hw : Within t x) :
    ∃ (A : Option Addr) (c : Nat) (l : List α), v = .slice A l.length c ∧ l.length ≤ c ∧ c ≤ maxLen ∧ Rd w (fun b => b < w.heap.size) sz A l.length (l.flatMap f) ∧ (∀ a ∈ l, ok a) ∧ l.length * by_ ≤ reachBytes := by
  rcases open_slice ht h with ⟨hcs, _⟩ | ⟨a, len, cap, m, n', D, Pl, hcs, _, hl, hm, hmm, hx, hi⟩
  · obtain rfl := List.singleton_inj.1 hcs
    exact ⟨none, 0, [], rfl, Nat.le_refl _, by simp [maxLen], Rd.nil, by simp, by simp⟩
  · obtain rfl := List.singleton_inj.1 hcs
    have hlm : len ≤ m := by rw [hmm]; split <;> omega
    have hwt : ∀ k, k ∈ (len + (m - len)) * by_ :: (DataW.weightsAll Tryz.prog e ((List.range len).map D) ++ DataW.weightsAll Tryz.prog e ((List.range (m - len)).map fun j => D (len + j))) → k ≤ reachBytes := by
      intro k hk
      refine hw k ?_
      rw [hx]
      simp only [DataW.weights, ht, List.length_map, List.length_range, hB]
      exact hk
    have hch : ∀ i, i < len → ∃ al : α, ok al ∧ w.cells? 0 (a.add (i * sz)) sz = some (f al) := by
      intro i hil
      obtain ⟨cs', h1, h2⟩ := hi i (by omega)
      obtain ⟨al, rfl, hok⟩ := hel n' cs' _ h2 (fun k hk => hwt k (by
        refine List.mem_cons_of_mem _ (List.mem_append.2 (.inl (weightsAll_mem hk ?_)))
        exact List.mem_map.2 ⟨i, List.mem_range.2 hil, rfl⟩))
      rw [hC] at h1
      exact ⟨al, hok, h1⟩
    obtain ⟨l, rfl, hpl⟩ := pick_list len hch
    have hok : ∀ al ∈ l, ok al := by
      intro al hal
      obtain ⟨i, hil, rfl⟩ := List.getElem_of_mem hal
      exact (hpl i hil).1
    have hcells : ∀ i (hi : i < l.length), w.cells? 0 (a.add (i * sz)) sz = some (f l[i]) := fun i hil => (hpl i hil).2
    have hfl : ∀ i (hi : i < l.length), (f l[i]).length = sz ∧ ∀ j u, (f l[i])[j]? = some u → w.cell? ((a.add (i * sz)).add j) = some u := by
      intro i hi
      obtain ⟨_, hcl, hat⟩ := World.cells?_some (hcells i hi)
      refine ⟨hcl, fun j u hu => ?_⟩
      have hj : j < (f l[i]).length := (List.getElem?_eq_some_iff.1 hu).1
      rw [hat j (by omega), hu]
    refine ⟨some a, cap, l, rfl, by omega, hm, ?_, hok, ?_⟩
    · have hget : ∀ (l' : List α), (∀ x ∈ l', (f x).length = sz) → (l'.flatMap f).length = l'.length * sz := by
        intro l' h'
        induction l' with
        | nil => simp
        | cons x l' ih => rw [List.flatMap_cons, List.length_append, h' x (by simp), ih (fun y hy => h' y (by simp [hy])), List.length_cons, Nat.add_mul]; omega
      have hall : ∀ x ∈ l, (f x).length = sz := by
        intro x hx
        obtain ⟨i, hi, rfl⟩ := List.getElem_of_mem hx
        exact (hfl i hi).1
      refine ⟨hget l hall, fun hpos => ?_⟩
      have hl0 : 0 < l.length := Nat.pos_of_mul_pos_right hpos
      obtain ⟨u0, hu0⟩ : ∃ u, (f l[0])[0]? = some u := ⟨_, List.getElem?_eq_getElem (by rw [(hfl 0 hl0).1]; exact hsz)⟩
      have h0 := (hfl 0 hl0).2 0 u0 hu0
      have ha0 : (a.add (0 * sz)).add 0 = a := by simp [Addr.add]
      rw [ha0] at h0
      have hspot : a = ⟨a.block, a.off, none⟩ := by
        obtain ⟨b, o, s⟩ := a
        rcases s with _ | s
        · rfl
        · exfalso
          unfold World.cell? at h0
          split at h0 <;> simp at h0
      refine ⟨a.block, a.off, by rw [← hspot], World.block_lt_of_cell? w a h0, World.block_lt_of_cell? w a h0, fun j u hu => ?_⟩
      have hj := (List.getElem?_eq_some_iff.1 hu).1
      rw [hget l hall] at hj
      have hi : j / sz < l.length := by rw [Nat.div_lt_iff_lt_mul hsz]; exact hj
      have hjm : j = j / sz * sz + j % sz := by rw [Nat.mul_comm]; exact (Nat.div_add_mod j sz).symm
      have hg := flat_at f sz l hall (j / sz) (j % sz) hi (Nat.mod_lt _ hsz)
      rw [← hjm, hu] at hg
      have := (hfl _ hi).2 (j % sz) u hg.symm
      rw [hspot, add_none, add_none, Nat.add_assoc, ← hjm] at this
      exact this
    · have := hwt _ (List.mem_cons_self)
      refine Nat.le_trans (Nat.mul_le_mul_right _ ?_) this
      omega

theorem flat_single {α : Type} (g : α → Value) : ∀ l : List α, (l.flatMap fun a => [g a]) = l.map g
  | [] => rfl
  | x :: l => by rw [List.flatMap_cons, flat_single g l]; rfl

/-- a []byte -/
theorem open_bv {n : Nat} {v : Value} {x : DataW H × List MemPlace} (h : DataW.trod enc Tryz.prog w 0 spare held n 29 [v] = some x) (hw : Within 29 x) :
    ∃ b : BV, v = b.v ∧ b.ok w (fun b => b < w.heap.size) ∧ b.l.length ≤ 140737488355328 := by
  obtain ⟨A, c, l, rfl, h1, h2, h3, _, h5⟩ := open_sl (w := w) (enc := enc) (spare := spare) (held := held) (fun x : UInt8 => [bv x]) (fun _ => True) 1 1 (t := 29) (e := 5) Tryz.underlying29 (by kernel_rfl) (by kernel_rfl) (by omega)
    (fun n cs x hx _ => by
      obtain ⟨m, rfl, _, hwf⟩ := DataW.trod_int Tryz.underlying5 hx
      have hb := u8_bd hwf
      refine ⟨UInt8.ofNat m.toNat, ?_, trivial⟩
      rw [bv_of (by omega)]
      congr 2
      omega) h hw
  refine ⟨⟨A, c, l⟩, rfl, ⟨?_, h1, h2⟩, ?_⟩
  · rw [flat_single] at h3; exact h3
  · have := reachBytes_lt
    simp only at *
    omega

/-- a struct of one-cell fields, as an element or a parameter -/
theorem open_st {t : TypeId} {fs : Array Field} (hs : Tryz.prog.underlying t = some (.struct fs)) (hone : oneCellFields Tryz.prog fs = true)
    {n : Nat} {cs : List Value} {x : DataW H × List MemPlace} (h : DataW.trod enc Tryz.prog w 0 spare held n t cs = some x) (hC : Tryz.prog.cellsOf t = fs.size) (hw : Within t x) :
    ∃ (ys : List (DataW H × List MemPlace)) (n' : Nat), cs.length = fs.size ∧ ys.length = fs.size ∧
      ∀ (j : Nat) (f : Field) (c : Value) (y : DataW H × List MemPlace), fs[j]? = some f → cs[j]? = some c → ys[j]? = some y → DataW.trod enc Tryz.prog w 0 spare held n' f.type [c] = some y ∧ Within f.type y := by
  obtain ⟨xs, n', _, hx, hl, hlen, hg⟩ := DataW.trod_struct hs h
  rw [hC] at hl
  refine ⟨xs, n', hl, hlen, fun j f c y hj hc hy => ⟨?_, ?_⟩⟩
  · obtain ⟨ho, hk⟩ := hone_of hone j f hj
    have h1 := hg j f hj
    rw [ho, hk] at h1
    have hjl : j < cs.length := by have := (Array.getElem?_eq_some_iff.1 hj).1; omega
    have e : (cs.drop j).take 1 = [c] := by
      rw [List.drop_eq_getElem_cons hjl, List.take_succ_cons, List.take_zero]
      rw [List.getElem?_eq_getElem hjl] at hc
      simpa using hc
    rw [e] at h1
    rw [h1, hy]
  · intro k hk
    refine hw k ?_
    rw [hx]
    simp only [DataW.weights, hs]
    refine DataW.weights_mem_each (j := j) (t := f.type) (d := y.1) ?_ ?_ k hk
    · rw [List.getElem?_map]
      have : fs.toList[j]? = some f := by simpa using hj
      rw [this]; rfl
    · rw [List.getElem?_map, hy]; rfl

theorem within_of {ts : List TypeId} {ds : List (DataW H)} {p : List MemPlace} (h : (DataW.weightsEach Tryz.prog ts ds).all (· ≤ reachBytes) = true) {j : Nat} {t : TypeId} {d : DataW H} (ht : ts[j]? = some t) (hd : ds[j]? = some d) : Within t (d, p) := by
  intro k hk
  have := List.all_eq_true.1 h _ (DataW.weights_mem_each ht hd k hk)
  simpa using this
end
end Go.Proofs.YtjcfphdjgagimaaGreatDoor

/- A row of a call's own at any offset: cells, stores, tails, append. No function of the program. -/
namespace Go.Proofs.YtjcfphdjgagimaaGreatDoor
open Go.RowKit

/-- A is n elements of so many cells, with room for c, in a block of its own (element type e) at or beyond base. -/
structure Row (w : World) (base : Nat) (e : TypeId) (size : Nat) (A : Option Addr) (n c : Nat) (xs : List Value) : Prop where
  len : xs.length = n * size
  room : n ≤ c
  cap : c ≤ maxLen
  nil : A = none → n = 0 ∧ c = 0
  at_ : ∀ a, A = some a → ∃ g off cur, a = ⟨g, off, none⟩ ∧ base ≤ g ∧ Blk w g e cur ∧ off + c * size ≤ cur.size ∧ ∀ j u, xs[j]? = some u → cur[off + j]? = some u

namespace Row
variable {w w' : World} {base size n c : Nat} {e : TypeId} {A : Option Addr} {xs : List Value}
theorem fr {S : Nat → Prop} (h : Row w base e size A n c xs) (k : Fr S w w') (hs : ∀ g, ablk A = some g → ¬ S g) : Row w' base e size A n c xs :=
  ⟨h.len, h.room, h.cap, h.nil, fun a ha => by
    obtain ⟨g, off, cur, e1, hb, hk, hsz, hc⟩ := h.at_ a ha
    exact ⟨g, off, cur, e1, hb, hk.fr k (hs g (by rw [ha, e1]; rfl)), hsz, hc⟩⟩
theorem below (h : Row w base e size A n c xs) (k : Below w.heap.size w w') : Row w' base e size A n c xs := h.fr (Fr.of_below k (fun _ => False)) (fun _ _ h => h)
theorem alloc (h : Row w base e size A n c xs) (o : Obj) : Row (w.alloc o) base e size A n c xs := h.below ((Below.refl _ _).alloc (Nat.le_refl _) o)
theorem drew (h : Row w base e size A n c xs) : Row w.drew base e size A n c xs := h.below (Below.refl _ _).drew
theorem lt (h : Row w base e size A n c xs) : ∀ g, ablk A = some g → base ≤ g ∧ g < w.heap.size := by
  intro g hg
  rcases A with _ | a
  · cases hg
  · obtain ⟨g', off, cur, e1, hb, hk, _⟩ := h.at_ a rfl
    subst e1
    injection hg with hg
    exact hg ▸ ⟨hb, hk.lt⟩
theorem rebase {base' : Nat} (h : Row w base e size A n c xs) (hb : ∀ g, ablk A = some g → base' ≤ g) : Row w base' e size A n c xs :=
  ⟨h.len, h.room, h.cap, h.nil, fun a ha => by
    obtain ⟨g, off, cur, e1, _, r⟩ := h.at_ a ha
    exact ⟨g, off, cur, e1, hb g (by rw [ha, e1]; rfl), r⟩⟩
theorem of_own (h : w.ownsRow base e size (.slice A n c) n xs) : Row w base e size A n c xs := by
  rcases h.2 with ⟨hv, hn⟩ | ⟨g, cap, cur, hv, hb, hg, hn, hm, hs, ht⟩
  · injection hv with h1 h2 h3
    subst h1 h2 h3
    exact ⟨h.1, Nat.le_refl _, by simp [maxLen], fun _ => ⟨rfl, rfl⟩, fun a ha => by cases ha⟩
  · injection hv with h1 h2 h3
    subst h1 h3
    refine ⟨h.1, hn, hm, fun h => (by cases h), fun a ha => ?_⟩
    injection ha with ha
    subst ha
    refine ⟨g, 0, cur, rfl, hb, hg, by omega, fun j u hu => ?_⟩
    rw [← ht, List.getElem?_take] at hu
    split at hu
    · simpa using hu
    · cases hu
theorem cell {g off : Nat} (h : Row w base e size (some ⟨g, off, none⟩) n c xs) {j : Nat} {u : Value} (hu : xs[j]? = some u) : w.cell? ⟨g, off + j, none⟩ = some u := by
  obtain ⟨g', off', cur, e1, _, hk, _, hc⟩ := h.at_ _ rfl
  injection e1 with h1 h2
  subst h1 h2
  rw [hk.cell, hc j u hu]
theorem frozen {g off : Nat} (h : Row w base e size (some ⟨g, off, none⟩) n c xs) (i : Nat) : w.frozen? ⟨g, i, none⟩ = false := by
  obtain ⟨g', off', cur, e1, _, hk, _, _⟩ := h.at_ _ rfl
  injection e1 with h1 h2
  subst h1 h2
  exact hk.frozen i
theorem addr (h : Row w base e size A n c xs) (hn : 0 < n) : ∃ g off, A = some ⟨g, off, none⟩ ∧ base ≤ g ∧ g < w.heap.size := by
  rcases A with _ | a
  · have := (h.nil rfl).1; omega
  · obtain ⟨g, off, cur, e1, hb, hk, _⟩ := h.at_ a rfl
    exact ⟨g, off, by rw [e1], hb, hk.lt⟩
theorem rd (h : Row w base e size A n c xs) : Rd w (fun b => ablk A = some b) size A n xs := by
  refine ⟨h.len, fun hn => ?_⟩
  have hn' : 0 < n := Nat.pos_of_mul_pos_right hn
  obtain ⟨g, off, rfl, hb, hlt⟩ := h.addr hn'
  exact ⟨g, off, rfl, rfl, hlt, fun j u hu => h.cell hu⟩
theorem put {g off : Nat} (h : Row w base e size (some ⟨g, off, none⟩) n c xs) (j : Nat) (u : Value) : Row (w.setCell ⟨g, off + j, none⟩ u) base e size (some ⟨g, off, none⟩) n c (xs.set j u) := by
  obtain ⟨g', off', cur, e1, hb, hk, hs, hc⟩ := h.at_ _ rfl
  injection e1 with h1 h2
  subst h1 h2
  refine ⟨by rw [List.length_set]; exact h.len, h.room, h.cap, fun h => (by cases h), fun a ha => ?_⟩
  injection ha with ha
  subst ha
  refine ⟨g, off, _, rfl, hb, hk.set_ (off + j) u, by simpa using hs, fun i v hv => ?_⟩
  rw [List.getElem?_set] at hv
  split at hv
  · rename_i hij
    subst hij
    split at hv
    · rename_i hjl
      have hlt : off + j < cur.size := by
        have := hc j _ (List.getElem?_eq_getElem hjl)
        exact (Array.getElem?_eq_some_iff.1 this).1
      rw [Array.getElem?_setIfInBounds_self_of_lt hlt]
      exact hv
    · cases hv
  · rename_i hij
    rw [Array.getElem?_setIfInBounds_ne (by omega)]
    exact hc i v hv
/-- s[k:] -/
theorem tail (h : Row w base e size A n c xs) {k : Nat} (hk : k ≤ n) : Row w base e size (if c = k then A else A.map (·.add (k * size))) (n - k) (c - k) (xs.drop (k * size)) := by
  have hr := h.room
  refine ⟨by rw [List.length_drop, h.len, Nat.sub_mul], by omega, by have := h.cap; omega, ?_, ?_⟩
  · intro hA
    split at hA
    · rename_i hck
      have := h.nil hA
      omega
    · rcases A with _ | a
      · have := h.nil rfl; omega
      · cases hA
  · intro a ha
    split at ha
    · rename_i hck
      obtain ⟨g, off, cur, e1, hb, hbk, hs, hc⟩ := h.at_ a ha
      refine ⟨g, off, cur, e1, hb, hbk, by rw [show c - k = 0 by omega]; omega, fun j u hu => ?_⟩
      have hn : n = k := by omega
      rw [List.drop_of_length_le (by rw [h.len, hn]; exact Nat.le_refl _)] at hu
      simp at hu
    · rcases A with _ | a0
      · cases ha
      · obtain ⟨g, off, cur, e1, hb, hbk, hs, hc⟩ := h.at_ a0 rfl
        subst e1
        injection ha with ha
        replace ha : (⟨g, off, none⟩ : Addr).add (k * size) = a := ha
        rw [add_none] at ha
        subst ha
        have hmul : (c - k) * size = c * size - k * size := Nat.sub_mul _ _ _
        have hle : k * size ≤ c * size := Nat.mul_le_mul_right _ (by omega)
        refine ⟨g, off + k * size, cur, rfl, hb, hbk, by omega, fun j u hu => ?_⟩
        rw [Nat.add_assoc]
        exact hc _ u (by rw [← hu, List.getElem?_drop])
end Row

theorem blk_setCells {g : Nat} {t : TypeId} : ∀ (vs : List Value) (o : Nat) {w : World} {cs : Array Value}, Blk w g t cs → ∃ cs', Blk (w.setCells g o vs) g t cs' ∧ cs'.size = cs.size
  | [], o, w, cs, h => ⟨cs, h, rfl⟩
  | v :: vs, o, w, cs, h => by
    obtain ⟨cs', h1, h2⟩ := blk_setCells vs (o + 1) (h.set_ o v)
    exact ⟨cs', h1, by rw [h2]; simp⟩
theorem grown_setCells (g : Nat) : ∀ (vs : List Value) (o : Nat) (w : World), w.grownBy (w.setCells g o vs) (some g)
  | [], o, w => World.grownBy.refl w _
  | v :: vs, o, w => by
    have h1 : w.grownBy (w.setCell ⟨g, o, none⟩ v) (some g) := ⟨rfl, rfl, rfl, by simp [World.setCell], fun k _ hk => Below.heap_setCell w ⟨g, o, none⟩ v k (fun e => hk (by rw [e]))⟩
    have h2 := grown_setCells g vs (o + 1) (w.setCell ⟨g, o, none⟩ v)
    exact h1.trans h2

section
variable {P : Program} (w : World)
theorem run_append_row (base : Nat) (t ty e : TypeId) (i : TypeInfo) (z : Value) (size bytes : Nat) (ht : P.underlying t = some (.slice e)) (hi : P.info? e = some i) (hz : i.zero = some z)
    (hsize : i.size = size) (hby : i.bytes = bytes) (hzs : z.cells.size = size) (hsz : 0 < size)
    {A : Option Addr} {n c : Nat} {xs : List Value} (h : Row w base e size A n c xs)
    {Z : Nat → Prop} {B : Option Addr} {m d : Nat} {news : List Value} (hr : Rd w Z size B m news) (h1 : ∀ u ∈ news, u.oneCell' = true)
    (h63 : n + m ≤ maxLen) (hbytes : (n + m) * bytes ≤ 140737488355328) (hbase : base ≤ w.heap.size) :
    ∃ A' c' w', (Builtin.append_ #[t, t] ty #[.slice A n c, .slice B m d]).run P w = .ok (.slice A' (n + m) c') w' ∧ Row w' base e size A' (n + m) c' (xs ++ news) ∧ w.grownBy w' (ablk A) ∧ (∀ g, ablk A' = some g → ablk A = some g ∨ w.heap.size ≤ g) := by
  rcases B with _ | ad
  · have hm : m = 0 := by
      rcases Nat.eq_zero_or_pos m with h0 | h0
      · exact h0
      · obtain ⟨b, off, hh, _⟩ := hr.2 (Nat.mul_pos h0 hsz)
        cases hh
    subst hm
    have hn : news = [] := List.eq_nil_of_length_eq_zero (by simpa using hr.1)
    subst hn
    refine ⟨A, c, w, ?_, by simpa using h, World.grownBy.refl w _, fun g hg => .inl hg⟩
    rcases A with _ | a
    · obtain ⟨rfl, rfl⟩ := h.nil rfl
      simp [Builtin.append_, run_underlying ht, sizeOf, typeInfo, hi, Builtin.lenOf, Builtin.firstCells]
    · have := h.room
      simp [Builtin.append_, run_underlying ht, sizeOf, typeInfo, hi, Builtin.lenOf, Builtin.firstCells, this, storeCells]
  · have hnews : ∀ j u, news[j]? = some u → w.cell? (ad.add j) = some u := by
      intro j u hu
      obtain ⟨b, off, hh, _, _, hc⟩ := hr.atj hu
      injection hh with hh
      subst hh
      rw [add_none]
      exact hc
    rcases A with _ | a
    · obtain ⟨rfl, rfl⟩ := h.nil rfl
      have hx : xs = [] := List.eq_nil_of_length_eq_zero (by simpa using h.len)
      subst hx
      obtain ⟨v', w', hrun, h2, h3, _, h5⟩ := run_append_own_at (P := P) w base t ty e i z size bytes ht hi hz hsize hby hzs hsz (.slice none 0 0) 0 [] (World.ownsRow_nil _ _ _ _) ad m d news hr.1 hnews h1 h63 hbytes hbase
      obtain ⟨A', c', rfl, _, _, hb⟩ := own_form h2
      refine ⟨A', c', w', hrun, Row.of_own h2, h3, ?_⟩
      intro g hg
      rcases A' with _ | a'
      · cases hg
      · injection hg with hg
        rcases h5 with h5 | h5
        · simp [Value.ownBlock] at h5
        · simp [Value.ownBlock] at h5
          exact .inr (by omega)
    · obtain ⟨g, off, cur, e1, hb, hk, hs, hc⟩ := h.at_ a rfl
      subst e1
      by_cases hroom : n + m ≤ c
      · subst hsize
        have hnl : news.length = m * i.size := hr.1
        have hfit : n * i.size + m * i.size ≤ c * i.size := by rw [← Nat.add_mul]; exact Nat.mul_le_mul_right _ hroom
        have hin : ∀ j, j < news.length → (w.cell? ⟨g, off + n * i.size + j, none⟩).isSome = true := by
          intro j hj
          rw [hk.cell, Array.getElem?_eq_getElem (by omega)]
          rfl
        have hrun := run_append_room_cells (P := P) w t ty e i ht hi g off n c ad m d news hnl hnews h1 hroom hin (fun j _ => hk.frozen _)
        refine ⟨_, _, _, hrun, ?_, grown_setCells g news _ w, fun g hg => .inl hg⟩
        obtain ⟨cs', hk', hs'⟩ := blk_setCells news (off + n * i.size) hk
        refine ⟨by rw [List.length_append, h.len, hnl, Nat.add_mul], hroom, h.cap, fun hh => (by cases hh), fun a ha => ?_⟩
        injection ha with ha
        subst ha
        refine ⟨g, off, cs', rfl, hb, hk', by omega, fun j u hu => ?_⟩
        rw [← hk'.cell]
        by_cases hj : j < xs.length
        · rw [List.getElem?_append_left hj] at hu
          rw [World.cell?_setCells_out g news _ w ⟨g, off + j, none⟩ (fun _ _ => .inl (by have := h.len; simp only; omega)), hk.cell]
          exact hc j u hu
        · rw [List.getElem?_append_right (by omega)] at hu
          have hjl := (List.getElem?_eq_some_iff.1 hu)
          obtain ⟨hjl, hju⟩ := hjl
          have hx := World.cell?_setCells_in g news (off + n * i.size) w hin (j - xs.length) hjl
          have hl := h.len
          rw [show off + n * i.size + (j - xs.length) = off + j by omega] at hx
          rw [hx, hju]
      · obtain ⟨v', w', hrun, h2, h3⟩ := run_append_arg_grows (P := P) w t ty e i z size bytes ht hi hz hsize hby hzs hsz ⟨g, off, none⟩ n c xs h.len (fun j u hu => by rw [add_none]; exact h.cell hu) ad m d news hr.1 hnews (by omega) h63 hbytes
        obtain ⟨A', c', rfl, _, _, hb2, hnil, _⟩ := own_form h2
        refine ⟨A', c', w', hrun, (Row.of_own h2).rebase (fun g hg => Nat.le_trans hbase (hb2 g hg).1), ⟨h3.os, h3.tape, h3.output, h3.size, fun k hk _ => h3.block k hk (by simp)⟩, ?_⟩
        exact fun g' hg' => .inr (hb2 g' hg').1
theorem wp_append_row {o : Oper} {a : Act} {K : Act → World → Prop} {Q : Exit → Act → World → Prop} (s x : Operand) (t : TypeId)
    (ho : o.op = .call { callee := .builtin .append, args := #[s, x], argTypes := #[t, t] })
    (base : Nat) (e : TypeId) (i : TypeInfo) (z : Value) (size bytes : Nat) (ht : P.underlying t = some (.slice e)) (hi : P.info? e = some i) (hz : i.zero = some z)
    (hsize : i.size = size) (hby : i.bytes = bytes) (hzs : z.cells.size = size) (hsz : 0 < size)
    {A : Option Addr} {n c : Nat} {xs : List Value} (hs : a.eval s = .slice A n c) (hrow : Row w base e size A n c xs)
    {Z : Nat → Prop} {B : Option Addr} {m d : Nat} {news : List Value} (hx : a.eval x = .slice B m d) (hr : Rd w Z size B m news) (h1 : ∀ u ∈ news, u.oneCell' = true)
    (h63 : n + m ≤ maxLen) (hbytes : (n + m) * bytes ≤ 140737488355328) (hbase : base ≤ w.heap.size)
    (h : ∀ (A' : Option Addr) (c' : Nat) (w' : World), Row w' base e size A' (n + m) c' (xs ++ news) → w.grownBy w' (ablk A) → (∀ g, ablk A' = some g → ablk A = some g ∨ w.heap.size ≤ g) → K (a.put o.dst (.slice A' (n + m) c')) w') : o.wp P a w K Q := by
  obtain ⟨A', c', w', hrun, h2, h3, h4⟩ := run_append_row (P := P) w base t o.type e i z size bytes ht hi hz hsize hby hzs hsz hrow hr h1 h63 hbytes hbase (d := d)
  unfold Oper.wp execOp
  simp only [ho, resolve, invoke, builtin, Sem.run_bind, Sem.run_pure, Result.andThen_ok, List.map_toArray, List.map_cons, List.map_nil, hs, hx, hrun]
  exact h A' c' w' h2 h3 h4

theorem wpList_append_row {ops : Array Oper} {rest : List Oper} {o : Oper} {a : Act} {Q : Exit → Act → World → Prop} (hgd : o.guard = none) (s x : Operand) (t : TypeId)
    (ho : o.op = .call { callee := .builtin .append, args := #[s, x], argTypes := #[t, t] })
    (base : Nat) (e : TypeId) (i : TypeInfo) (z : Value) (size bytes : Nat) (ht : P.underlying t = some (.slice e)) (hi : P.info? e = some i) (hz : i.zero = some z)
    (hsize : i.size = size) (hby : i.bytes = bytes) (hzs : z.cells.size = size) (hsz : 0 < size)
    {A : Option Addr} {n c : Nat} {xs : List Value} (hs : a.eval s = .slice A n c) (hrow : Row w base e size A n c xs)
    {Z : Nat → Prop} {B : Option Addr} {m d : Nat} {news : List Value} (hx : a.eval x = .slice B m d) (hr : Rd w Z size B m news) (h1 : ∀ u ∈ news, u.oneCell' = true)
    (h63 : n + m ≤ maxLen) (hbytes : (n + m) * bytes ≤ 140737488355328) (hbase : base ≤ w.heap.size)
    (h : ∀ (A' : Option Addr) (c' : Nat) (w' : World), Row w' base e size A' (n + m) c' (xs ++ news) → w.grownBy w' (ablk A) → (∀ g, ablk A' = some g → ablk A = some g ∨ w.heap.size ≤ g) → wpList P ops Q rest (a.put o.dst (.slice A' (n + m) c')) w') : wpList P ops Q (o :: rest) a w :=
  wpList_plain hgd fun _ hK => wp_append_row w s x t ho base e i z size bytes ht hi hz hsize hby hzs hsz hs hrow hx hr h1 h63 hbytes hbase fun A' c' w' h2 h3 h4 => hK _ _ (h A' c' w' h2 h3 h4)

end
end Go.Proofs.YtjcfphdjgagimaaGreatDoor

/- tenderref03: Cut, part, Good, User. -/
namespace Go.Proofs.YtjcfphdjgagimaaGreatDoor
open Go.RowKit

theorem str_info : (Tryz.prog.info? 9).map (fun i => (i.zero, i.size, i.bytes)) = some (some (.string ⟨#[]⟩), 1, 16) := by kernel_rfl
/-- texts in a row of their own -/
def Sts (w : World) (base : Nat) (A : Option Addr) (c : Nat) (l : List (List UInt8)) : Prop := Row w base 9 1 A l.length c (l.map stv)
theorem Sts.at_ {w : World} {base c i : Nat} {A : Option Addr} {l : List (List UInt8)} (h : Sts w base A c l) (hi : i < l.length) : ∃ g off, A = some ⟨g, off, none⟩ ∧ base ≤ g ∧ g < w.heap.size ∧ w.cell? ⟨g, off + i, none⟩ = some (stv l[i]) ∧ ∀ j, w.frozen? ⟨g, j, none⟩ = false := by
  obtain ⟨g, off, rfl, hb, hlt⟩ := Row.addr h (by omega)
  exact ⟨g, off, rfl, hb, hlt, Row.cell h (by rw [List.getElem?_map, List.getElem?_eq_getElem hi]; rfl), fun j => Row.frozen h j⟩
theorem Sts.get {w : World} {base c i : Nat} {A : Option Addr} {l : List (List UInt8)} {x : List UInt8} (h : Sts w base A c l) (hi : l[i]? = some x) : ∃ g off, A = some ⟨g, off, none⟩ ∧ base ≤ g ∧ g < w.heap.size ∧ w.cell? ⟨g, off + i, none⟩ = some (stv x) ∧ ∀ j, w.frozen? ⟨g, j, none⟩ = false := by
  obtain ⟨hlt, rfl⟩ := List.getElem?_eq_some_iff.1 hi
  exact h.at_ hlt
theorem Sts.below {w w' : World} {base c : Nat} {A : Option Addr} {l : List (List UInt8)} (h : Sts w base A c l) (k : Below w.heap.size w w') : Sts w' base A c l := Row.below h k
theorem Sts.rd {w : World} {base c : Nat} {A : Option Addr} {l : List (List UInt8)} (h : Sts w base A c l) : Rd w (fun b => ablk A = some b) 1 A l.length (l.map stv) := Row.rd h
theorem Sts.lit1 (w : World) {base : Nat} (l : List UInt8) (hb : base ≤ w.heap.size) : Sts (w.alloc (.cells #[stv l] 9)) base (some ⟨w.heap.size, 0, none⟩) 1 [l] :=
  Row.of_own (World.ownsRow_lit (base := base) (e := 9) (size := 1) w #[stv l] 1 hb (by simp [maxLen]) (by simp))
theorem tl_one (s : ByteArray) (i : Nat) (hi : i < s.size) : tl (s.extract i (i + 1)) = [s[i]] := by
  have h : (tl s)[i]? = some s[i] := by rw [List.getElem?_eq_getElem (by rw [tl_len]; exact hi)]; rfl
  have e : tl (s.extract i (i + 1)) = ((tl s).drop i).take 1 := by
    simp only [tl, ByteArray.data_extract, Array.toList_extract, List.extract_eq_take_drop]
    rw [show i + 1 - i = 1 by omega]
  rw [e, List.drop_eq_getElem_cons (by rw [tl_len]; exact hi), List.take_succ_cons, List.take_zero]
  rfl
theorem take_one (s : ByteArray) (i : Nat) (hi : i < s.size) : (tl s).take (i + 1) = (tl s).take i ++ [s[i]] := by
  rw [List.take_succ_eq_append_getElem (by rw [tl_len]; exact hi)]; rfl

theorem cutL_len : ∀ l : List UInt8, (cutL l).length ≤ l.length + 1
  | [] => by simp [cutL]
  | c :: l => by
    have := cutL_len l
    have h0 := cutL_pos l
    rw [cutL]
    split
    · simp; omega
    · simp; omega
theorem under_short_v (s t : ByteArray) : stv (tl s ++ tl t) = .string (s ++ t) := by rw [← under_short]; rfl
theorem cut_mem_len : ∀ l : List UInt8, ∀ x ∈ cutL l, x.length ≤ l.length
  | [], x, h => by simp [cutL] at h; simp [h]
  | c :: l, x, h => by
    have ih := cut_mem_len l
    obtain ⟨y, ys, e⟩ := List.exists_cons_of_ne_nil (cutL_ne l)
    rw [cutL] at h
    rw [e] at ih h
    split at h
    · rcases List.mem_cons.1 h with rfl | h
      · simp
      · have := ih x h; simp; omega
    · rw [List.headD_cons, List.tail_cons] at h
      rcases List.mem_cons.1 h with rfl | h
      · have := ih y (by simp); simp; omega
      · have := ih x (by simp [h]); simp; omega
theorem snoc_set {l : List (List UInt8)} {m : Nat} {x y : List UInt8} (hm : l.length = m + 1) (hx : l[m]? = some x) : l.dropLast ++ [l.getLastD [] ++ y] = l.set m (x ++ y) := by
  obtain ⟨l', z, rfl⟩ : ∃ l' z, l = l' ++ [z] := ⟨l.dropLast, l.getLast (by rintro rfl; simp at hm), (List.dropLast_concat_getLast _).symm⟩
  have hl : l'.length = m := by simpa using hm
  subst hl
  have : z = x := by simpa using hx
  subst this
  simp
set_option maxRecDepth 100000 in
set_option maxHeartbeats 1000000 in
theorem refCut_any (s : ByteArray) (hs : s.size ≤ 1048576) (w : World) :
    Calls Tryz.prog 48 #[.string s] w fun e w' => ∃ A c l, e = .returned (.slice A l.length c) ∧ Hid (l = cutL (tl s)) ∧ Sts w' w.heap.size A c l ∧ Below w.heap.size w w' := by
  obtain ⟨i0, hi0, hz0, hz1, hz2⟩ := info_parts str_info
  go_enter Tryz.func48, Tryz.ntmps48
  go_wp2_with fail
  go_loopw [3, 4] (fun ov iv wr => ∃ (i : Nat) (A : Option Addr) (c : Nat) (l : List (List UInt8)), i ≤ s.size ∧ iv = .int .i64 (i : Int) ∧ ov = .slice A l.length c ∧ Hid (l = cutL ((tl s).take i)) ∧ Sts wr w.heap.size A c l ∧ Below w.heap.size w wr) (fun _ iv _ => s.size - (intOf iv).toNat)
  case atStart => exact ⟨0, _, 1, [[]], Nat.zero_le _, rfl, rfl, by show _ = _; simp [cutL], Sts.lit1 w [] (Nat.le_refl _), (Below.refl _ _).alloc (Nat.le_refl _) _⟩
  case round =>
    obtain ⟨i, A, c, l, hi, rfl, rfl, hl, hst, hb⟩ := hrel
    have hln : l.length ≤ i + 1 := by
      rw [hl.out]
      have := cutL_len ((tl s).take i)
      rw [List.length_take] at this
      omega
    have hl0 : 0 < l.length := by rw [hl.out]; exact cutL_pos _
    by_cases hlt : i < s.size
    · have HT := Lib.hid (take_one s i hlt)
      obtain ⟨m, hm⟩ : ∃ m : Nat, l.length = m + 1 := ⟨l.length - 1, by omega⟩
      obtain ⟨x, hx⟩ : ∃ x, l[m]? = some x := ⟨_, List.getElem?_eq_getElem (by omega)⟩
      obtain ⟨g, off, rfl, hgb, hgl, hcell, hfz⟩ := hst.get hx
      have hsz := hb.size
      have HX := Lib.hid hx
      clear hx
      have HM := Lib.hid hm
      have HC := Lib.hid hcell
      have HF := Lib.hid hfz
      have hm1 : (m : Int) + 1 ≤ (l.length : Int) := by omega
      clear hcell hfz hm
      go_wp2_with (at_builtin; refine wpList_append_row _ rfl (.tmp 16) (.tmp 17) 84 rfl w.heap.size 9 i0 _ 1 16 Tryz.underlying84 hi0 hz0 hz1 hz2 rfl (by omega) rfl (Row.alloc hst (.cells #[stv []] 9)) rfl (Rd.lit (xs := [stv []]) (n := 1) rfl rfl rfl) (by simp [Value.oneCell', stv]) (by simp only [maxLen]; omega) (by omega) (by simp; omega) ?_; intro A3 c3 w3 hrow3 hg3 hat3)
      · have hc1 : ((s[i].toNat : Int) == 47) = true := by assumption
        have hc : s[i] = 47 := UInt8.toNat_inj.1 (by rw [beq_iff_eq] at hc1; rw [show (47 : UInt8).toNat = 47 from rfl]; omega)
        have HL : Hid (l ++ [[]] = cutL ((tl s).take (i + 1))) := by show _ = _; rw [HT.out, cutL_snoc, if_pos hc, hl.out]
        go_roundw
        case rel =>
          refine ⟨i + 1, A3, c3, l ++ [[]], hlt, by go_num, by simp, HL, ?_, ?_⟩
          · unfold Sts
            rw [List.length_append, List.map_append]
            exact hrow3
          · refine (hb.alloc hsz _).grown hg3 (by simp; omega) (fun k e => ?_)
            injection e with e
            have e' : g = k := e
            omega
        case measure => simp [intOf]; omega
      · have hc1 : ((s[i].toNat : Int) == 47) = false := by assumption
        have hc : ¬ s[i] = 47 := by intro e; rw [e] at hc1; simp at hc1
        have HL : Hid (l.set m (x ++ [s[i]]) = cutL ((tl s).take (i + 1))) := by
          show _ = _
          rw [HT.out, cutL_snoc, if_neg hc, ← hl.out]
          exact (snoc_set HM.out HX.out).symm
        have hcell := HC.out
        unfold stv at hcell
        have hfz := HF.out (off + m)
        have hw1 : IntKind.i64.wrap ((l.length : Int) - 1) = (m : Int) := by rw [show (l.length : Int) - 1 = (m : Int) by have := HM.out; omega]; exact IntWalk.i64_in _ (by omega)
        have hw2 : IntKind.i64.wrap ((i : Int) + 1) = (i : Int) + 1 := IntWalk.i64_in _ (by omega)
        have b1 : (0 : Int) ≤ (m : Int) := by omega
        have b2 : (m : Int) < (l.length : Int) := by omega
        have b3 : (0 : Int) ≤ (i : Int) := by omega
        have b4 : (i : Int) ≤ (i : Int) + 1 := by omega
        have b5 : (i : Int) + 1 ≤ (s.size : Int) := by omega
        have b6 : ((i : Int) + 1).toNat = i + 1 := by omega
        have hxl : x.length ≤ i := by
          have := cut_mem_len _ _ (show x ∈ cutL ((tl s).take i) by rw [← hl.out]; exact List.mem_of_getElem? HX.out)
          rw [List.length_take] at this
          omega
        have b7 : x.length + (min (i + 1) s.size - i) ≤ 9223372036854775807 := by omega
        clear hm1 hxl
        go_region
        all_goals
          go_wp2_with fail
          go_roundw
          case rel =>
            have hrow : Row (wr.drew.setCell ⟨g, off + m, none⟩ (.string (⟨⟨x⟩⟩ ++ s.extract i (i + 1)))) w.heap.size 9 1 (some ⟨g, off, none⟩) l.length c ((l.map stv).set m (.string (⟨⟨x⟩⟩ ++ s.extract i (i + 1)))) := (Row.drew hst).put m _
            refine ⟨i + 1, some ⟨g, off, none⟩, c, l.set m (x ++ [s[i]]), hlt, by go_num, by rw [List.length_set], HL, ?_, ?_⟩
            · unfold Sts
              rw [List.length_set, List.map_set, show stv (x ++ [s[i]]) = .string (⟨⟨x⟩⟩ ++ s.extract i (i + 1)) by rw [← tl_one s i hlt]; exact (under_short_v ⟨⟨x⟩⟩ (s.extract i (i + 1)))]
              exact hrow
            · exact hb.drew.setCell (p := ⟨g, off + m, none⟩) hgb _
          case measure => simp [intOf]; omega
    · go_wp2_with fail
      go_ret
      exact ⟨A, c, l, rfl, by show _ = _; rw [hl.out, List.take_of_length_le (by rw [tl_len]; omega)], hst, hb⟩

set_option maxRecDepth 100000 in
theorem refPart_any (s : ByteArray) (hs : s.size ≤ 9223372036854775807) (w : World) : Calls Tryz.prog 79 #[.string s] w fun e w' => e = .returned (.bool (partB (tl s))) ∧ w = w' := by
  obtain ⟨a, ha⟩ : ∃ a, s.data.toList = a := ⟨_, rfl⟩
  have HL := Lib.hid (show a.length = s.size by rw [← ha]; exact tl_len s)
  have EA := Lib.hid (show s.toList = a by rw [ByteArray.toList_eq, ha])
  have HA := Lib.hid ha
  rw [show tl s = a from ha]
  clear ha
  go_enter Tryz.func79, Tryz.ntmps79
  go_wp2_with fail
  go_loop [3] (fun iv => ∃ i : Nat, i ≤ s.size ∧ iv = .int .i64 (i : Int) ∧ Hid (∀ c ∈ a.take i, c ≠ 0)) (fun iv => s.size - (intOf iv).toNat)
  case atStart => exact ⟨0, Nat.zero_le _, rfl, by show ∀ c ∈ a.take 0, c ≠ 0; simp⟩
  case round =>
    obtain ⟨i, hi, rfl, hz⟩ := hrel
    by_cases hlt : i < s.size
    · have HE : Hid (a[i]? = some s[i]) := by
        show _ = _
        rw [← HA.out, List.getElem?_eq_getElem (show i < s.data.toList.length from by rw [show s.data.toList.length = s.size from tl_len s]; exact hlt)]
        rfl
      go_wp2_with fail
      · have hc : ((s[i].toNat : Int) == 0) = true := by assumption
        go_ret
        refine ⟨ret_b ?_, rfl⟩
        have e : s[i] = 0 := UInt8.toNat_inj.1 (by rw [beq_iff_eq] at hc; rw [show (0 : UInt8).toNat = 0 from rfl]; omega)
        rw [e] at HE
        have hm := List.mem_of_getElem? HE.out
        unfold partB
        simp [hm]
      · have hc : ((s[i].toNat : Int) == 0) = false := by assumption
        go_round
        case rel =>
          refine ⟨i + 1, hlt, by go_num, ?_⟩
          show ∀ c ∈ a.take (i + 1), c ≠ 0
          intro c hcm
          rw [List.take_add_one, HE.out] at hcm
          rcases List.mem_append.1 hcm with h | h
          · exact hz.out c h
          · simp at h
            rw [h]
            intro e
            rw [e] at hc
            simp at hc
        case measure => simp [intOf]; omega
    · have hz2 : Hid (a.contains 0 = false) := by
        show _ = _
        rw [List.contains_eq_mem, decide_eq_false_iff_not]
        intro h
        exact hz.out 0 (by rw [List.take_of_length_le (by rw [HL.out]; omega)]; exact h) rfl
      clear hz
      have HM : Hid (a.isEmpty = decide (s.size < 1)) := by
        show _ = _
        rw [Bool.eq_iff_iff, List.isEmpty_iff, decide_eq_true_eq, ← HL.out]
        constructor
        · rintro rfl; simp
        · intro h; exact List.length_eq_zero_iff.1 (by omega)
      go_wp2_with fail
      all_goals
        go_ret
        refine ⟨ret_b ?_, rfl⟩
        simp only [EA.out] at *
        unfold partB
        rw [HM.out, HL.out, hz2.out]
      · have h1 : a = [46] := by assumption
        rw [h1]; simp
      · have h1 : (1 : Int) ≤ (s.size : Int) := by assumption
        have h2 : (s.size : Int) ≤ 24 := by assumption
        rw [decide_eq_false (by omega : ¬ s.size < 1), decide_eq_true (by omega : s.size ≤ 24)]; simp
      · have h2 : 24 < (s.size : Int) := by assumption
        rw [decide_eq_false (by omega : ¬ s.size ≤ 24)]; simp
      · have h2 : (s.size : Int) < 1 := by assumption
        rw [decide_eq_true (by omega : s.size < 1)]; simp
set_option maxRecDepth 100000 in
set_option maxHeartbeats 1000000 in
theorem refGood_any (s : ByteArray) (hs : s.size ≤ 9223372036854775807) (w : World) : Calls Tryz.prog 50 #[.string s] w fun e w' => e = .returned (.bool (goodB (tl s))) ∧ Below w.heap.size w w' := by
  by_cases h96 : s.size ≤ 96
  · have HG := Lib.hid (show goodB (tl s) = ((cutL (tl s)).all partB && decide ((cutL (tl s)).length ≤ 6)) by unfold goodB; rw [tl_len]; simp [h96])
    obtain ⟨R, hR⟩ : ∃ R, R = goodB (tl s) := ⟨_, rfl⟩
    rw [← hR]
    have HR := Lib.hid (hR.trans HG.out)
    clear hR HG
    go_enter Tryz.func50, Tryz.ntmps50
    go_wp2_with fail
    refine (refCut_any s (by omega) _).mono ?_
    rintro e w1 ⟨A, c, l, rfl, hl, hst, hb⟩
    rw [← hl.out] at HR
    have hll : l.length ≤ 97 := by
      have := cutL_len (tl s)
      rw [hl.out, tl_len] at *
      omega
    have hml : ∀ x ∈ l, x.length ≤ 96 := by
      intro x hx
      rw [hl.out] at hx
      have := cut_mem_len _ _ hx
      rw [tl_len] at this
      omega
    go_wp2_with fail
    go_loopw [4] (fun iv wr => ∃ i : Nat, i ≤ l.length ∧ iv = .int .i64 (i : Int) ∧ Hid ((l.take i).all partB = true) ∧ w1 = wr) (fun iv _ => l.length - (intOf iv).toNat)
    case atStart => exact ⟨0, Nat.zero_le _, rfl, by show _ = _; simp, rfl⟩
    case round =>
      obtain ⟨i, hi, rfl, hz, rfl⟩ := hrel
      by_cases hlt : i < l.length
      · obtain ⟨x, hx⟩ : ∃ x, l[i]? = some x := ⟨_, List.getElem?_eq_getElem hlt⟩
        obtain ⟨g, off, rfl, hgb, hgl, hcell, hfz⟩ := hst.get hx
        have HP := Lib.hid (fun w => refPart_any ⟨⟨x⟩⟩ (by have := hml x (List.mem_of_getElem? hx); show x.length ≤ _; omega) w)
        have HX := Lib.hid hx
        clear hx
        unfold stv at hcell
        go_wp2_with fail
        refine (HP.out _).mono ?_
        rintro e w2 ⟨rfl, rfl⟩
        rw [show tl ⟨⟨x⟩⟩ = x from rfl]
        cases hp : partB x
        · have HPX := Lib.hid hp
          clear hp
          go_wp2_with fail
          go_ret
          refine ⟨ret_b ?_, hb⟩
          rw [HR.out]
          have : l.all partB = false := by
            rw [List.all_eq_false]
            exact ⟨x, List.mem_of_getElem? HX.out, by rw [HPX.out]; simp⟩
          rw [this]; rfl
        · have HPX := Lib.hid hp
          clear hp
          go_wp2_with fail
          go_roundw
          case rel =>
            refine ⟨i + 1, hlt, by go_num, ?_, trivial⟩
            show _ = _
            rw [List.take_add_one, HX.out, List.all_append, hz.out]
            simp [HPX.out]
          case measure => simp [intOf]; omega
      · have HZ := Lib.hid (show l.all partB = true by have := hz.out; rwa [List.take_of_length_le (by omega)] at this)
        clear hz
        go_wp2_with fail
        go_ret
        refine ⟨ret_b ?_, hb⟩
        rw [HR.out, HZ.out]
        rw [Bool.eq_iff_iff]
        simp
        omega
  · have hr : goodB (tl s) = false := by unfold goodB; rw [tl_len]; simp [h96]
    have h1 : 96 < (s.size : Int) := by omega
    rw [hr]
    clear hr
    go_enter Tryz.func50, Tryz.ntmps50
    go_wp2_with fail
    go_ret
    exact ⟨rfl, Below.refl _ _⟩
end Go.Proofs.YtjcfphdjgagimaaGreatDoor

/- tenderref03: Under. -/
namespace Go.Proofs.YtjcfphdjgagimaaGreatDoor
open Go.RowKit

theorem refGood_yes (s : ByteArray) (hs : s.size ≤ 9223372036854775807) (h : goodB (tl s) = true) (w : World) : Calls Tryz.prog 50 #[.string s] w fun e w' => e = .returned (.bool true) ∧ Below w.heap.size w w' := by
  have := refGood_any s hs w
  rwa [h] at this
theorem refGood_no (s : ByteArray) (hs : s.size ≤ 9223372036854775807) (h : goodB (tl s) = false) (w : World) : Calls Tryz.prog 50 #[.string s] w fun e w' => e = .returned (.bool false) ∧ Below w.heap.size w w' := by
  have := refGood_any s hs w
  rwa [h] at this
/-- by parts -/
theorem preB_parts (p top : List UInt8) : preB p top = (decide ((cutL top).length < (cutL p).length) && ((cutL p).take (cutL top).length == cutL top)) := by
  rw [Bool.eq_iff_iff, preB_iff]
  simp only [Bool.and_eq_true, decide_eq_true_eq, beq_iff_eq]
  constructor
  · rintro ⟨T, hT, e⟩
    rw [e]
    have := List.length_pos_iff.2 hT
    exact ⟨by rw [List.length_append]; omega, List.take_left' rfl⟩
  · rintro ⟨h1, h2⟩
    refine ⟨(cutL p).drop (cutL top).length, fun e => ?_, ?_⟩
    · have := List.drop_eq_nil_iff.1 e
      omega
    · conv => lhs; rw [← List.take_append_drop (cutL top).length (cutL p), h2]

set_option maxRecDepth 100000 in
set_option maxHeartbeats 1000000 in
theorem refUnder_any (p top : ByteArray) (hp : p.size ≤ 9223372036854775807) (ht : top.size ≤ 9223372036854775807) (w : World) : Calls Tryz.prog 80 #[.string p, .string top] w fun e w' => e = .returned (.bool (underB (tl p) (tl top))) ∧ Below w.heap.size w w' := by
  obtain ⟨M, hM⟩ : ∃ M, M = underB (tl p) (tl top) := ⟨_, rfl⟩
  rw [← hM]
  cases gp : goodB (tl p)
  · have HP := Lib.hid (refGood_no p hp gp)
    have HM : Hid (M = false) := by show _ = _; rw [hM]; unfold underB; rw [gp]; rfl
    clear gp hM
    go_enter Tryz.func80, Tryz.ntmps80
    go_wp2_with fail
    refine (HP.out _).mono ?_
    rintro e w1 ⟨rfl, hb1⟩
    go_wp2_with fail
    go_ret
    exact ⟨ret_b HM.out.symm, hb1⟩
  have HP := Lib.hid (refGood_yes p hp gp)
  cases gt : goodB (tl top)
  · have HT := Lib.hid (refGood_no top ht gt)
    have HM : Hid (M = false) := by show _ = _; rw [hM]; unfold underB; rw [gp, gt]; rfl
    clear gp gt hM
    go_enter Tryz.func80, Tryz.ntmps80
    go_wp2_with fail
    refine (HP.out _).mono ?_
    rintro e w1 ⟨rfl, hb1⟩
    go_wp2_with fail
    refine (HT.out _).mono ?_
    rintro e w2 ⟨rfl, hb2⟩
    go_wp2_with fail
    go_ret
    exact ⟨ret_b HM.out.symm, bthen hb1 hb2⟩
  have HT := Lib.hid (refGood_yes top ht gt)
  have hp96 := goodB_len gp
  have ht96 := goodB_len gt
  rw [tl_len] at hp96 ht96
  have HM : Hid (M = (decide ((cutL (tl top)).length < (cutL (tl p)).length) && ((cutL (tl p)).take (cutL (tl top)).length == cutL (tl top)))) := by
    show _ = _; rw [hM]; unfold underB; rw [gp, gt, preB_parts]; rfl
  clear gp gt hM
  go_enter Tryz.func80, Tryz.ntmps80
  go_wp2_with fail
  refine (HP.out _).mono ?_
  rintro e w1 ⟨rfl, hb1⟩
  go_wp2_with fail
  refine (HT.out _).mono ?_
  rintro e w2 ⟨rfl, hb2⟩
  replace hb2 := bthen hb1 hb2
  go_wp2_with fail
  refine (refCut_any p (by omega) _).mono ?_
  rintro e w3 ⟨A, c, x, rfl, hx, hsx, hb3⟩
  replace hb3 := bthen hb2 hb3
  go_wp2_with fail
  refine (refCut_any top (by omega) _).mono ?_
  rintro e w4 ⟨A', c', y, rfl, hy, hsy, hb4⟩
  replace hsx := hsx.below hb4
  replace hb4 := bthen hb3 hb4
  have hxl : x.length ≤ 97 := by
    have := cutL_len (tl p)
    rw [hx.out]
    rw [tl_len] at this
    omega
  have hyl : y.length ≤ 97 := by
    have := cutL_len (tl top)
    rw [hy.out]
    rw [tl_len] at this
    omega
  have HR2 : Hid (M = (decide (y.length < x.length) && (x.take y.length == y))) := by show _ = _; rw [HM.out, hx.out, hy.out]
  clear HM hx hy hb1 hb2 hb3
  by_cases hle : x.length ≤ y.length
  · go_wp2_with fail
    go_ret
    refine ⟨ret_b ?_, hb4⟩
    rw [HR2.out, decide_eq_false (by omega)]; rfl
  · have hgt : (y.length : Int) < (x.length : Int) := by omega
    go_wp2_with fail
    go_loopw [7] (fun iv wr => ∃ i : Nat, i ≤ y.length ∧ iv = .int .i64 (i : Int) ∧ Hid (x.take i = y.take i) ∧ Qt w4 wr) (fun iv _ => y.length - (intOf iv).toNat)
    case atStart => exact ⟨0, Nat.zero_le _, rfl, rfl, Qt.refl _⟩
    case round =>
      obtain ⟨i, hi, rfl, hz, hq⟩ := hrel
      by_cases hlt : i < y.length
      · obtain ⟨xi, hxi⟩ : ∃ z, x[i]? = some z := ⟨_, List.getElem?_eq_getElem (by omega)⟩
        obtain ⟨yi, hyi⟩ : ∃ z, y[i]? = some z := ⟨_, List.getElem?_eq_getElem hlt⟩
        obtain ⟨g, off, rfl, hgb, hgl, hcell, hfz⟩ := (hsx.below hq.below).get hxi
        obtain ⟨g', off', rfl, hgb', hgl', hcell', hfz'⟩ := (hsy.below hq.below).get hyi
        have HN : Hid (xi = yi → x.take (i + 1) = y.take (i + 1)) := by
          intro e
          rw [List.take_add_one, List.take_add_one, hz.out, hxi, hyi, e]
        have HD : Hid (xi ≠ yi → M = false) := by
          intro hne
          rw [HR2.out, Bool.and_eq_false_iff]
          right
          rw [beq_eq_false_iff_ne]
          intro e
          have h1 : (x.take y.length)[i]? = x[i]? := by rw [List.getElem?_take, if_pos hlt]
          rw [e, hxi, hyi] at h1
          injection h1 with h1
          exact hne h1.symm
        have b1 : (i : Int) < (x.length : Int) := by omega
        clear hxi hyi hz hfz hfz'
        unfold stv at hcell hcell'
        by_cases hxy : xi = yi
        · have hn : (!xi == yi) = false := by simp [hxy]
          have HN2 := Lib.hid (HN.out hxy)
          clear HN HD hxy
          go_wp2_with fail
          go_quiet (fail)
          go_wp2_with fail
          go_roundw
          case rel => exact ⟨i + 1, hlt, by go_num, HN2.out, hq.trans ⟨_, rfl⟩⟩
          case measure => simp [intOf]; omega
        · have hn : (!xi == yi) = true := by simp [hxy]
          have HD2 := Lib.hid (HD.out hxy)
          clear HN HD hxy
          go_wp2_with fail
          go_quiet (fail)
          go_wp2_with fail
          go_ret
          exact ⟨ret_b HD2.out.symm, bthen hb4 (hq.trans ⟨_, rfl⟩).below⟩
      · go_wp2_with fail
        go_ret
        refine ⟨ret_b ?_, bthen hb4 hq.below⟩
        have e : i = y.length := by omega
        have h2 := hz.out
        rw [e, List.take_length] at h2
        rw [HR2.out, h2, decide_eq_true (by omega)]
        simp
end Go.Proofs.YtjcfphdjgagimaaGreatDoor

/- tenderref03: Paste. -/
namespace Go.Proofs.YtjcfphdjgagimaaGreatDoor
open Go.RowKit

theorem take_ne {α : Type} {l : List α} {i : Nat} (h0 : i ≠ 0) (h : 0 < l.length) : l.take i ≠ [] := by
  intro e
  rcases List.take_eq_nil_iff.1 e with h1 | h1
  · exact h0 h1
  · rw [h1] at h; simp at h
theorem drop_ne {α : Type} {l : List α} {i : Nat} (h : i < l.length) : l.drop i ≠ [] := by
  intro e
  have := List.drop_eq_nil_iff.1 e
  omega
theorem paste_take_le : ∀ (l : List (List UInt8)) (i : Nat), (pasteL (l.take i)).length ≤ (pasteL l).length
  | l, i => by
    by_cases h : i = 0
    · subst h; simp [pasteL]
    · by_cases h2 : i < l.length
      · conv => rhs; rw [← List.take_append_drop i l, paste_app _ _ (take_ne h (by omega)) (drop_ne h2)]
        simp
      · rw [List.take_of_length_le (by omega)]; exact Nat.le_refl _
theorem paste_one (x : List UInt8) : pasteL [x] = x := rfl

set_option maxRecDepth 100000 in
set_option maxHeartbeats 1000000 in
theorem paste_any (A : Option Addr) (c : Nat) (l : List (List UInt8)) (Z : Nat → Prop) (w : World) (h : Rd w Z 1 A l.length (l.map stv)) (hn : l.length ≤ 1048576) (hl : (pasteL l).length ≤ 1048576) :
    Calls Tryz.prog 81 #[.slice A l.length c] w fun e w' => ∃ s, e = .returned (.string s) ∧ Hid (tl s = pasteL l) ∧ Qt w w' := by
  go_enter Tryz.func81, Tryz.ntmps81
  go_wp2_with fail
  go_loopw [3, 4] (fun sv iv wr => ∃ (i : Nat) (s : ByteArray), i ≤ l.length ∧ iv = .int .i64 (i : Int) ∧ sv = .string s ∧ Hid (tl s = pasteL (l.take i)) ∧ Qt w wr) (fun _ iv _ => l.length - (intOf iv).toNat)
  case atStart => exact ⟨0, ⟨#[]⟩, Nat.zero_le _, rfl, rfl, rfl, Qt.refl _⟩
  case round =>
    obtain ⟨i, s, hi, rfl, rfl, hs, hq⟩ := hrel
    by_cases hlt : i < l.length
    · obtain ⟨b, off, rfl, _, _, hc⟩ := (h.below hq.below).atm hlt
      have ht := paste_take_le l (i + 1)
      have hts : l.take (i + 1) = l.take i ++ [l[i]] := List.take_succ_eq_append_getElem hlt
      have hss := congrArg List.length hs.out
      rw [tl_len] at hss
      obtain ⟨x, hx⟩ : ∃ x, x = l[i] := ⟨_, rfl⟩
      rw [← hx] at hc hts
      unfold stv at hc
      by_cases h0 : i = 0
      · have hst : s.size = 0 := by rw [hss, h0]; rfl
        have HP : Hid (pasteL (l.take (i + 1)) = x) := by show _ = _; rw [hts, h0]; rfl
        rw [HP.out] at ht
        have hi0 : ¬ (0 : Int) < (i : Int) := by omega
        have b1 : s.size + x.length ≤ 9223372036854775807 := by omega
        have HS : Hid (s = ⟨#[]⟩) := tl_inj (List.length_eq_zero_iff.1 (by rw [tl_len]; exact hst))
        clear hts hx hss ht hs hst h0
        go_wp2_with fail
        go_roundw
        case rel => exact ⟨i + 1, _, hlt, by go_num, rfl, by show _ = _; rw [HP.out, HS.out]; rfl, hq⟩
        case measure => simp [intOf]; omega
      · have h1 : (0 : Int) < (i : Int) := by omega
        have HP : Hid (pasteL (l.take (i + 1)) = tl s ++ 47 :: x) := by
          show _ = _
          rw [hts, paste_app _ _ (take_ne h0 (by omega)) (by simp), hs.out, paste_one]
        rw [HP.out, List.length_append, List.length_cons, tl_len] at ht
        have b1 : s.size + 1 ≤ 9223372036854775807 := by omega
        have b2 : s.size + 1 + x.length ≤ 9223372036854775807 := by omega
        clear hts hx hss ht hs h0
        go_wp2_with fail
        go_roundw
        case rel => exact ⟨i + 1, _, hlt, by go_num, rfl, by show _ = _; rw [HP.out, under_short, under_short, List.append_assoc]; rfl, hq⟩
        case measure => simp [intOf]; omega
    · have HT := Lib.hid (show tl s = pasteL l by rw [hs.out, List.take_of_length_le (by omega)])
      clear hs
      go_wp2_with fail
      go_ret
      exact ⟨s, rfl, HT, hq⟩
end Go.Proofs.YtjcfphdjgagimaaGreatDoor

/- name.Parent, Ups; tenderref03.Parent, Ups, Same. -/
namespace Go.Proofs.YtjcfphdjgagimaaGreatDoor
open Go.RowKit

/-- the path above -/
def parT (p : List UInt8) : List UInt8 × Bool := if goodB p && decide (1 < (cutL p).length) then (pasteL (cutL p).dropLast, true) else ([], false)
theorem last_ways (s : ByteArray) : (Lib.lastIndexByte s 47 = -1 ∧ cutL (tl s) = [tl s]) ∨
    (∃ i : Nat, Lib.lastIndexByte s 47 = (i : Int) ∧ i < s.size ∧ 1 < (cutL (tl s)).length ∧ pasteL (cutL (tl s)).dropLast = tl (s.extract 0 i)) := by
  have hget : ∀ j, j < s.size → (tl s)[j]? = some (s.data[j]!) := by
    intro j hj
    have hj' : j < s.data.size := hj
    rw [List.getElem?_eq_getElem (by rw [tl_len]; exact hj), getElem!_pos s.data j hj']
    rfl
  rcases Lib.lastIndexByte_spec s 47 with ⟨h, hn⟩ | ⟨i, hi, h, hc, hn⟩
  · refine .inl ⟨h, cutL_none fun c hcm => ?_⟩
    obtain ⟨k, hk, rfl⟩ := List.getElem_of_mem hcm
    have hk' : k < s.size := by rwa [tl_len] at hk
    have := hget k hk'
    rw [List.getElem?_eq_getElem hk] at this
    injection this with this
    intro e
    refine hn k hk' ?_
    rw [← this, e]; rfl
  · have h47 : (tl s)[i]? = some 47 := by rw [hget i hi]; congr 1; exact UInt8.toNat_inj.1 (by rw [show (47 : UInt8).toNat = 47 from rfl]; omega)
    have hsp : tl s = (tl s).take i ++ 47 :: (tl s).drop (i + 1) := by
      conv => lhs; rw [← List.take_append_drop i (tl s)]
      obtain ⟨hlt, he⟩ := List.getElem?_eq_some_iff.1 h47
      rw [List.drop_eq_getElem_cons hlt, he]
    have hno : cutL ((tl s).drop (i + 1)) = [(tl s).drop (i + 1)] := by
      refine cutL_none fun c hcm => ?_
      obtain ⟨k, hk, rfl⟩ := List.getElem_of_mem hcm
      rw [List.getElem_drop]
      have hk' : i + 1 + k < s.size := by rw [List.length_drop, tl_len] at hk; omega
      have := hget _ hk'
      rw [List.getElem?_eq_getElem (by rw [tl_len]; exact hk')] at this
      injection this with this
      intro e
      refine hn (i + 1 + k) (by omega) hk' ?_
      rw [← this, e]; rfl
    refine .inr ⟨i, h, hi, ?_, ?_⟩
    · rw [hsp, cut_app, hno, List.length_append]
      have := cutL_pos ((tl s).take i)
      simp; omega
    · conv => lhs; rw [hsp, cut_app, hno]
      rw [List.dropLast_concat, paste_cut, tl_head]

set_option maxRecDepth 100000 in
set_option maxHeartbeats 400000 in
theorem parent_any (s : ByteArray) (hs : s.size ≤ 1048576) (w : World) : Calls Tryz.prog 85 #[.string s] w fun e w' => ∃ t b, e = .returned (.tuple #[.string t, .bool b]) ∧ Hid ((tl t, b) = parT (tl s)) ∧ Below w.heap.size w w' := by
  obtain ⟨M, hM⟩ : ∃ M, M = parT (tl s) := ⟨_, rfl⟩
  rw [← hM]
  have HX := Lib.hid (fun w => Tryz.strings_LastIndexByte s 47 (by omega) w)
  rcases last_ways s with ⟨h, hx⟩ | ⟨i, h, hi, hx, hp⟩
  · have HM : Hid (M = ([], false)) := by show _ = _; rw [hM]; unfold parT; rw [hx]; simp
    rw [h] at HX
    clear hM h hx
    go_enter Tryz.func85, Tryz.ntmps85
    go_wp2_with fail
    refine (HX.out _).mono ?_
    rintro e w1 ⟨rfl, hw⟩
    subst hw
    go_wp2_with fail
    go_ret2
    exact ⟨_, _, rfl, HM.out.symm, Below.refl _ _⟩
  · rw [h] at HX
    cases hg : goodB (tl s)
    · have HM : Hid (M = ([], false)) := by show _ = _; rw [hM]; unfold parT; rw [hg]; rfl
      have HC := Lib.hid (check_no s (by omega) hg)
      clear hM h hx hg hp
      go_enter Tryz.func85, Tryz.ntmps85
      go_wp2_with fail
      refine (HX.out _).mono ?_
      rintro e w1 ⟨rfl, hw⟩
      subst hw
      go_wp2_with fail
      refine (HC.out _).mono ?_
      rintro e w2 ⟨rfl, hb⟩
      go_wp2_with fail
      go_ret2
      exact ⟨_, _, rfl, HM.out.symm, hb⟩
    · have HM : Hid (M = (tl (s.extract 0 i), true)) := by show _ = _; rw [hM]; unfold parT; rw [hg, decide_eq_true hx, hp]; rfl
      have HC := Lib.hid (check_yes s (by omega) hg)
      have b1 : (i : Int) ≤ (s.size : Int) := by omega
      clear hM h hx hg hp
      go_enter Tryz.func85, Tryz.ntmps85
      go_wp2_with fail
      refine (HX.out _).mono ?_
      rintro e w1 ⟨rfl, hw⟩
      subst hw
      go_wp2_with fail
      refine (HC.out _).mono ?_
      rintro e w2 ⟨rfl, hb⟩
      go_wp2_with fail
      go_ret2
      exact ⟨_, _, rfl, HM.out.symm, hb⟩
set_option maxRecDepth 100000 in
set_option maxHeartbeats 400000 in
theorem refParent_any (s : ByteArray) (hs : s.size ≤ 1048576) (w : World) : Calls Tryz.prog 54 #[.string s] w fun e w' => ∃ t, e = .returned (.string t) ∧ Hid (tl t = (parT (tl s)).1) ∧ Below w.heap.size w w' := by
  obtain ⟨M, hM⟩ : ∃ M, M = (parT (tl s)).1 := ⟨_, rfl⟩
  rw [← hM]
  cases hg : goodB (tl s)
  · have HM : Hid (M = []) := by show _ = _; rw [hM]; unfold parT; rw [hg]; rfl
    have HC := Lib.hid (refGood_no s (by omega) hg)
    clear hM hg
    go_enter Tryz.func54, Tryz.ntmps54
    go_wp2_with fail
    refine (HC.out _).mono ?_
    rintro e w2 ⟨rfl, hb⟩
    go_wp2_with fail
    go_ret
    exact ⟨_, rfl, HM.out.symm, hb⟩
  · have HM : Hid (M = pasteL (cutL (tl s)).dropLast) := by
      show _ = _
      rw [hM]; unfold parT; rw [hg]
      by_cases h : 1 < (cutL (tl s)).length
      · simp [h]
      · have h1 := cutL_pos (tl s)
        have : (cutL (tl s)).dropLast = [] := List.length_eq_zero_iff.1 (by rw [List.length_dropLast]; omega)
        rw [this]; simp [h, pasteL]
    have HC := Lib.hid (refGood_yes s (by omega) hg)
    have hs96 := goodB_len hg
    rw [tl_len] at hs96
    clear hM hg
    go_enter Tryz.func54, Tryz.ntmps54
    go_wp2_with fail
    refine (HC.out _).mono ?_
    rintro e w1 ⟨rfl, hb⟩
    go_wp2_with fail
    refine (refCut_any s (by omega) _).mono ?_
    rintro e w2 ⟨A, c, l, rfl, hl, hst, hb2⟩
    replace hb2 := bthen hb hb2
    rw [← hl.out] at HM
    have hl0 : 0 < l.length := by rw [hl.out]; exact cutL_pos _
    have hll : l.length ≤ 97 := by
      have := cutL_len (tl s)
      rw [hl.out]
      rw [tl_len] at this
      omega
    have hpl : (pasteL l.dropLast).length ≤ 1048576 := by
      have := paste_take_le l (l.length - 1)
      rw [← List.dropLast_eq_take] at this
      have h2 := congrArg (fun x => (pasteL x).length) hl.out
      rw [paste_cut, tl_len] at h2
      omega
    obtain ⟨m, hm⟩ : ∃ m : Nat, l.length = m + 1 := ⟨l.length - 1, by omega⟩
    have hrd := (Sts.rd hst).take (k := m) (by omega)
    have hdl : Hid ((l.map stv).take (m * 1) = l.dropLast.map stv) := by show _ = _; rw [List.dropLast_eq_take, Nat.mul_one, List.map_take, show l.length - 1 = m by omega]
    rw [hdl.out] at hrd
    have hdn : Hid (m = l.dropLast.length) := by show _ = _; rw [List.length_dropLast]; omega
    have hroom := Row.room hst
    have hcap := Row.cap hst
    have hmx : maxLen = 9223372036854775807 := rfl
    rw [hmx] at hcap
    have b0 : (l.length : Int) - 1 = (m : Int) := by omega
    have hw1 : IntKind.i64.wrap ((l.length : Int) - 1) = (m : Int) := by rw [b0]; exact IntWalk.i64_in _ (by omega)
    have b1 : (0 : Int) ≤ (m : Int) := by omega
    have b2 : (m : Int) ≤ (c : Int) := by omega
    have HM1 := Lib.hid hm
    have HRD := Lib.hid hrd
    clear hrd hm hl hdl
    go_wp2_with fail
    rw [hdn.out]
    refine (paste_any A _ l.dropLast _ w2 (by rw [← hdn.out]; exact HRD.out) (by rw [← hdn.out]; omega) hpl).mono ?_
    rintro e w3 ⟨t, rfl, ht, hq⟩
    go_wp2_with fail
    go_ret
    exact ⟨t, rfl, ht.out.trans HM.out.symm, bthen hb2 hq.below⟩

end Go.Proofs.YtjcfphdjgagimaaGreatDoor
