/- Small plain facts on numbers and worlds, no program. -/
import Derived.Test.YticfjnjeoikalaaRows
import Derived.WalkKit
import Derived.WalkSpells
import Derived.WalkLawsBesides
import Derived.ProofKit
import Derived.Lib.Hide
import Derived.Deep.QuietTactic
import Derived.BigQuiet
import Derived.Laws.BitsAllLaws
import Derived.SizedLaws
import Derived.Lib.SmallJoins
import Derived.Deep.Slices
import Derived.Deep.Fields
import Derived.Laws.OwnMore
import Derived.Maps.AppendAt
import Derived.Deep.AppendLies
import Derived.Deep.Draws
import Derived.RegionTactic
import Derived.OwnWalk
import Derived.ArgAppend
import Derived.Ground.SlbCloneProg
import Derived.Shelf.Bytes.SlClone
import Derived.Test.YticfjnjeoikalaaProg
import Derived.Handy
import Derived.Deep.RegionLaw
import Derived.Deep.RegionHeld3

namespace Go.Proofs.Yticfjnjeoikalaa
open Go.RowKit Go.WideShapes Go.ChangeShapes

theorem Try.own : ownKnob Try.prog.godebug = none := by kernel_rfl
theorem Try.laidOut : laidOutB Try.prog = true := by kernel_rfl

section
variable {H : Type} {enc : TypeId × Value → H} {P : Program}
/-- The row's last step, where all that was there before the call is as it was. -/
theorem post_below {f : Func} {s : ChangeSpec} {apart fresh handsOn again : Bool} {W W' : World} {args : Array Value} {v : Value} {ds gs : List (DataW H)} {before pa pv : List MemPlace}
    (hW : DataW.Whole enc P f.params.toList s.vars apart W args.toList ds gs before)
    (hres : ∀ (b : Nat) (sp : Nat → Bool) (hd : Bool), DataW.TrodAll enc P W' b sp hd f.resultTypes.toList (v.resultList f.resultTypes.size) (s.fn H (ds ++ gs)).results [])
    (hargs : ∀ sp : Nat → Bool, (∀ p ∈ before, sp p.block = true) → DataW.TrodAll enc P W' 0 sp true f.params.toList args.toList (s.fn H (ds ++ gs)).args pa)
    (hvars : ∀ sp : Nat → Bool, (∀ p ∈ before, sp p.block = true) → DataW.TrodVars enc P W' sp s.vars (s.fn H (ds ++ gs)).vars pv)
    (hps : before = pa ++ pv) (hb : Below W.heap.size W W')
    (hok : ∀ (j : Nat) (t : TypeId) (r : Value), f.resultTypes[j]? = some t → (v.resultList f.resultTypes.size)[j]? = some r → Value.okWide P W' .any 0 t r) :
    s.post enc P f apart fresh handsOn again W args v W' := by
  have hlt : ∀ p ∈ before, p.block < W.heap.size := fun p hp => hW.lt p hp
  have hold : ∀ p ∈ before, (fun b => decide (b < W.heap.size)) p.block = true := fun p hp => by simpa using hlt p hp
  refine ⟨ds, gs, before, [], pa, pv, hW, hres _ _ _, hargs _ hold, hvars _ hold, World.keptBut_mono (fun p hp => ⟨hp, ?_⟩) (hb.frame (· ∈ before)), fun _ => ?_⟩
  · rw [hps, List.mem_append] at hp
    exact Or.inr hp
  · obtain ⟨_, _, _, _, _, hz, hn⟩ := hW
    refine ⟨hok, _, _, ([] ++ pa) ++ pv, ⟨[] ++ pa, pv, trodAll_append (hargs _ (fun _ _ => rfl)) (hres _ _ _), hvars _ (fun _ _ => rfl), rfl, ?_, ?_⟩, ?_⟩
    · intro b off hp
      have hin : MemPlace.cell b off ∈ before := by rw [hps]; simpa using hp
      rw [hb.frozen (hlt _ hin)]
      exact hz b off hin
    · intro ha
      have := hn ha
      rw [hps] at this
      simpa using this
    · intro p hp _
      rw [hps]
      simpa using hp
end

theorem i64_bd {n : Int} (h : (Lit.int .i64 n).wf = true) : -9223372036854775808 ≤ n ∧ n < 9223372036854775808 := by
  simp [Lit.wf, IntKind.min, IntKind.max, IntKind.bits, IntKind.signed] at h
  omega
theorem u8_bd {n : Int} (h : (Lit.int .u8 n).wf = true) : 0 ≤ n ∧ n < 256 := by
  simp [Lit.wf, IntKind.min, IntKind.max, IntKind.bits, IntKind.signed] at h
  omega
theorem u32_bd {n : Int} (h : (Lit.int .u32 n).wf = true) : 0 ≤ n ∧ n < 4294967296 := by
  simp [Lit.wf, IntKind.min, IntKind.max, IntKind.bits, IntKind.signed] at h
  omega
theorem cellAt {a b : World} (h : Below a.heap.size a b) {x o : Nat} {u : Value} (hx : x < a.heap.size) (hu : a.cell? ⟨x, o, none⟩ = some u) : b.cell? ⟨x, o, none⟩ = some u :=
  (h.cell (p := ⟨x, o, none⟩) hx).trans hu
theorem ret_b {x y : Bool} (h : x = y) : Ending.returned (.bool x) = .returned (.bool y) := by rw [h]
end Go.Proofs.Yticfjnjeoikalaa

/- From a law's contract ('it returns true, and all that was there is as it was') to its row. -/
namespace Go.Proofs.Yticfjnjeoikalaa
open Go.RowKit Go.WideShapes Go.ChangeShapes Go.ChangeAt

theorem trodAll_stays {H : Type} {enc : TypeId × Value → H} {W W' : World} {sp : Nat → Bool} (hb : Below W.heap.size W W') :
    ∀ (ts : List TypeId) (vs : List Value) (ds : List (DataW H)) (ps : List MemPlace), (∀ t ∈ ts, Try.prog.readableRec t = true ∧ t < Try.prog.types.size) →
      DataW.TrodAll enc Try.prog W 0 (fun _ => true) true ts vs ds ps → (∀ p ∈ ps, p.block < W.heap.size ∧ sp p.block = true) →
      DataW.TrodAll enc Try.prog W' 0 sp true ts vs ds ps
  | [], [], [], _, _, h, _ => h
  | t :: ts, v :: vs, d :: ds, ps, hr, h, hp => by
    obtain ⟨p, q, h1, h2, rfl⟩ := h
    refine ⟨p, q, ?_, trodAll_stays hb ts vs ds q (fun t ht => hr t (by simp [ht])) h2 (fun x hx => hp x (by simp [hx])), rfl⟩
    exact WideElems.Trod_stays Try.laidOut (hr t (by simp)).1 (hr t (by simp)).2 h1 (fun x hx => hb.same (hp x (by simp [hx])).1) (fun x hx => (hp x (by simp [hx])).2)
  | [], _ :: _, _, _, _, h, _ => h.elim
  | [], [], _ :: _, _, _, h, _ => h.elim
  | _ :: _, [], _, _, _, h, _ => h.elim
  | _ :: _, _ :: _, [], _, _, h, _ => h.elim

theorem trodAll_len {H : Type} {enc : TypeId × Value → H} {P : Program} {W : World} {base : Nat} {sp : Nat → Bool} {hd : Bool} :
    ∀ (ts : List TypeId) (vs : List Value) (ds : List (DataW H)) (ps : List MemPlace), DataW.TrodAll enc P W base sp hd ts vs ds ps → ds.length = ts.length
  | [], [], [], _, _ => rfl
  | t :: ts, v :: vs, d :: ds, ps, h => by
    obtain ⟨p, q, _, h2, _⟩ := h
    simpa using trodAll_len ts vs ds q h2
  | [], _ :: _, _, _, h => h.elim
  | [], [], _ :: _, _, h => h.elim
  | _ :: _, [], _, _, h => h.elim
  | _ :: _, _ :: _, [], _, h => h.elim

set_option maxRecDepth 100000 in
/-- every parameter's type can be read -/
theorem law_reads {ts : List TypeId} (h : (ts.all fun t => Try.prog.readableRec t && decide (t < Try.prog.types.size)) = true) : ∀ t ∈ ts, Try.prog.readableRec t = true ∧ t < Try.prog.types.size := by
  intro t ht
  have := List.all_eq_true.1 h t ht
  simpa using this

set_option maxRecDepth 100000 in
theorem law_lift {os : Os} (started : os.Started) {H : Type} {enc : TypeId × Value → H} {k : FuncId} {fn : Func} {s : ChangeSpec}
    (noInit : Try.checked.prog.inits.idxOf? k = none) (hfn : Try.prog.funcs[k]? = some fn)
    (hrt : fn.resultTypes = #[4]) (hvars : s.vars = [])
    (hread : ∀ t ∈ fn.params.toList, Try.prog.readableRec t = true ∧ t < Try.prog.types.size)
    (hs : ∀ ds : List (DataW H), ds.length = fn.params.toList.length → s.fn H ds = { results := [.lit (.bool true)], args := ds })
    (witness : ∃ (w : World) (tape : Tape) (i : Input), w.os = os ∧ (w.forCall tape i).Shaped Try.checked.prog ∧ i.vars = [] ∧ Input.okWide Try.checked.prog (w.forCall tape i) .any w.heap.size k i ∧
      s.pre6 enc Try.checked.prog fn [] false (w.forCall tape i).memory i.args ∧ ({} : Assume).holds Try.checked.prog (lone (Frame.enter Try.checked.prog k i.args .normal) [] (w.forCall tape i)))
    (contract : ∀ (W : World) (base : Nat) (args : Array Value) (ds : List (DataW H)) (ps : List MemPlace),
      (∀ (j : Nat) t v, fn.params[j]? = some t → args[j]? = some v → Value.okWide Try.prog W .any base t v) →
      DataW.TrodAll enc Try.prog W 0 (fun _ => true) true fn.params.toList args.toList ds ps →
      (∀ p ∈ ps, p.block < W.heap.size) →
      (DataW.weightsEach Try.prog fn.params.toList ds).all (· ≤ reachBytes) = true →
      Calls Try.prog k args W fun e W' => e = .returned (.bool true) ∧ Below W.heap.size W W') :
    ReturnsInHanded {} Try.checked os k .any (s.pre6 enc Try.checked.prog fn [] false) (s.post enc Try.checked.prog fn false true false false) := by
  refine returnsInHanded_of_change_sized (C := Try.checked) Try.own started noInit hfn witness ?_
  intro W base args ds gs before hval hW _ hsz _
  have hW' := hW
  obtain ⟨p, q, hA, hV, rfl, hfz, hnd⟩ := hW
  rw [hvars] at hV
  obtain ⟨rfl, rfl⟩ := trodVars_none hV
  have hlt : ∀ x ∈ p, x.block < W.heap.size := fun x hx => hW'.lt x (by simp [hx])
  have hlen : ds.length = fn.params.toList.length := trodAll_len _ _ _ _ hA
  have hsz' : (DataW.weightsEach Try.prog fn.params.toList ds).all (· ≤ reachBytes) = true := by
    have hv : s.plain.varTypes Try.checked.prog = [] := by simp only [ChangeSpec.plain, hvars]; rfl
    rw [hv, List.append_nil, List.append_nil] at hsz
    exact hsz
  refine (contract W base args ds p hval hA hlt hsz').mono fun e W' ⟨he, hb⟩ => ?_
  have e1 : s.fn H (ds ++ []) = { results := [.lit (.bool true)], args := ds } := by rw [List.append_nil]; exact hs ds hlen
  refine ⟨_, he, post_below (pa := p) (pv := []) hW' ?_ ?_ ?_ rfl hb ?_⟩
  · intro b sp hd
    rw [e1, hrt]
    exact trodAll_mk1 (shut_bool Try.underlying4 true)
  · intro sp hsp
    rw [e1]
    exact trodAll_stays hb _ _ _ _ hread hA (fun x hx => ⟨hlt x hx, hsp x (by simp [hx])⟩)
  · intro sp hsp
    rw [e1, hvars]
    rfl
  · exact ok_one hrt rfl (okWide_bool_mk Try.underlying4 true)
end Go.Proofs.Yticfjnjeoikalaa

/- Arguments opened: structs by value of any number of one-cell fields. -/
namespace Go.Proofs.Yticfjnjeoikalaa
open Go.RowKit Go.WideShapes Go.ChangeShapes Go.ChangeAt Go.Deep Go.Joins

section
variable {H : Type} {enc : TypeId × Value → H} {P : Program} {w : World} {base : Nat} {spare : Nat → Bool} {held : Bool}
end
end Go.Proofs.Yticfjnjeoikalaa

/- Words for memory: what may change between two worlds (Fr), what a slice reads as (Rd), a block known whole (Blk), append onto an owned row. No program. -/
namespace Go.Proofs.Yticfjnjeoikalaa
open Go.RowKit

theorem add_none (b o j : Nat) : (⟨b, o, none⟩ : Addr).add j = ⟨b, o + j, none⟩ := by
  unfold Addr.add
  split
  · rename_i h; subst h; rfl
  · rfl

/-- Between w and w' only blocks of S, and new ones, have turned. -/
structure Fr (S : Nat → Prop) (w w' : World) : Prop where
  os : w'.os = w.os
  tape : w'.tape = w.tape
  output : w'.output = w.output
  size : w.heap.size ≤ w'.heap.size
  block : ∀ k, k < w.heap.size → ¬ S k → w'.heap[k]? = w.heap[k]?

/-- the block of a slice's address -/
def ablk : Option Addr → Option Nat | some a => some a.block | none => none

namespace Fr
variable {S S' : Nat → Prop} {a b c : World}
theorem refl (S : Nat → Prop) (w : World) : Fr S w w := ⟨rfl, rfl, rfl, Nat.le_refl _, fun _ _ _ => rfl⟩
theorem mono (h : Fr S a b) (hs : ∀ k, k < a.heap.size → S k → S' k) : Fr S' a b := ⟨h.os, h.tape, h.output, h.size, fun k hk hn => h.block k hk (fun hx => hn (hs k hk hx))⟩
theorem trans (h : Fr S a b) (k : Fr S' b c) (hs : ∀ x, x < a.heap.size → S' x → S x) : Fr S a c :=
  ⟨k.os.trans h.os, k.tape.trans h.tape, k.output.trans h.output, Nat.le_trans h.size k.size, fun x hx hn =>
    (k.block x (Nat.lt_of_lt_of_le hx h.size) (fun hy => hn (hs x hx hy))).trans (h.block x hx hn)⟩
theorem of_below (h : Below a.heap.size a b) (S : Nat → Prop) : Fr S a b := ⟨h.os, h.tape, h.output, h.size, fun k hk _ => h.block k hk⟩
theorem of_grown {row : Option Nat} (h : a.grownBy b row) (hr : ∀ k, k < a.heap.size → row = some k → S k) : Fr S a b :=
  ⟨h.os, h.tape, h.output, h.size, fun k hk hn => h.block k hk (fun e => hn (hr k hk e.symm))⟩
theorem below {B : Nat} (h : Fr S a b) (hB : B ≤ a.heap.size) (hs : ∀ k, k < B → ¬ S k) : Below B a b := ⟨h.os, h.tape, h.output, h.size, fun k hk => h.block k (by omega) (hs k hk)⟩
theorem then_below (h : Fr S a b) (k : Below b.heap.size b c) : Fr S a c := h.trans (of_below k S) (fun _ _ h => h)
theorem drew (h : Fr S a b) : Fr S a b.drew := ⟨h.os, h.tape, h.output, h.size, h.block⟩
theorem alloc (h : Fr S a b) (o : Obj) : Fr S a (b.alloc o) :=
  h.then_below ((Below.refl _ _).alloc (Nat.le_refl _) o)
theorem setCell (h : Fr S a b) {p : Addr} (hp : p.block < a.heap.size → S p.block) (u : Value) : Fr S a (b.setCell p u) :=
  ⟨h.os, h.tape, h.output, by simpa [World.setCell] using h.size, fun k hk hn => (Below.heap_setCell b p u k (by rintro rfl; exact hn (hp hk))).trans (h.block k hk hn)⟩
theorem setAt (h : Fr S a b) (x o : Nat) (hx : S x) (u : Value) : Fr S a (b.setCell ⟨x, o, none⟩ u) := h.setCell (p := ⟨x, o, none⟩) (fun _ => hx) u
theorem cell (h : Fr S a b) {p : Addr} (hp : p.block < a.heap.size) (hn : ¬ S p.block) : b.cell? p = a.cell? p := World.cell?_of_block (w := a) (h.block p.block hp hn)
theorem frozen (h : Fr S a b) {p : Addr} (hp : p.block < a.heap.size) (hn : ¬ S p.block) : b.frozen? p = a.frozen? p := World.frozen?_of_block (w := a) (h.block p.block hp hn)
end Fr

/-- The slice's address A reads, n elements of so many cells, as the cells xs; they lie in a block of Z. -/
def Rd (w : World) (Z : Nat → Prop) (size : Nat) (A : Option Addr) (n : Nat) (xs : List Value) : Prop :=
  xs.length = n * size ∧ (0 < n * size → ∃ b off, A = some ⟨b, off, none⟩ ∧ Z b ∧ b < w.heap.size ∧ ∀ j u, xs[j]? = some u → w.cell? ⟨b, off + j, none⟩ = some u)

namespace Rd
variable {w w' : World} {Z Z' S : Nat → Prop} {size n : Nat} {A : Option Addr} {xs : List Value}
theorem nil : Rd w Z size A 0 [] := ⟨by simp, fun h => by simp at h⟩
theorem fr (h : Rd w Z size A n xs) (k : Fr S w w') (hs : ∀ b, b < w.heap.size → Z b → ¬ S b) : Rd w' Z size A n xs :=
  ⟨h.1, fun hn => by
    obtain ⟨b, off, e, hz, hb, hc⟩ := h.2 hn
    exact ⟨b, off, e, hz, Nat.lt_of_lt_of_le hb k.size, fun j u hu => (k.cell (p := ⟨b, off + j, none⟩) hb (hs b hb hz)).trans (hc j u hu)⟩⟩
theorem below (h : Rd w Z size A n xs) (k : Below w.heap.size w w') : Rd w' Z size A n xs := h.fr (Fr.of_below k (fun _ => False)) (fun _ _ _ h => h)
theorem mono (h : Rd w Z size A n xs) (hz : ∀ b, b < w.heap.size → Z b → Z' b) : Rd w Z' size A n xs :=
  ⟨h.1, fun hn => by
    obtain ⟨b, off, e, hz', hb, hc⟩ := h.2 hn
    exact ⟨b, off, e, hz b hb hz', hb, hc⟩⟩
theorem drew (h : Rd w Z size A n xs) : Rd w.drew Z size A n xs := h
theorem alloc (h : Rd w Z size A n xs) (o : Obj) : Rd (w.alloc o) Z size A n xs := h.below ((Below.refl _ _).alloc (Nat.le_refl _) o)
/-- cell j of all -/
theorem atj {j : Nat} {u : Value} (h : Rd w Z size A n xs) (hu : xs[j]? = some u) : ∃ b off, A = some ⟨b, off, none⟩ ∧ Z b ∧ b < w.heap.size ∧ w.cell? ⟨b, off + j, none⟩ = some u := by
  have hj := (List.getElem?_eq_some_iff.1 hu).1
  have := h.1
  obtain ⟨b, off, e, hz, hb, hc⟩ := h.2 (by omega)
  exact ⟨b, off, e, hz, hb, hc j u hu⟩
/-- element k of a mapped list -/
theorem atm {α : Type} {f : α → Value} {l : List α} {k : Nat} (h : Rd w Z 1 A n (l.map f)) (hk : k < l.length) : ∃ b off, A = some ⟨b, off, none⟩ ∧ Z b ∧ b < w.heap.size ∧ w.cell? ⟨b, off + k, none⟩ = some (f l[k]) :=
  h.atj (by rw [List.getElem?_map, List.getElem?_eq_getElem hk]; rfl)
theorem some_of (h : Rd w Z size A n xs) (hn : 0 < n * size) : ∃ b off, A = some ⟨b, off, none⟩ ∧ Z b ∧ b < w.heap.size := by
  obtain ⟨b, off, e, hz, hb, _⟩ := h.2 hn
  exact ⟨b, off, e, hz, hb⟩
theorem take (h : Rd w Z size A n xs) {k : Nat} (hk : k ≤ n) : Rd w Z size A k (xs.take (k * size)) := by
  have hle : k * size ≤ n * size := Nat.mul_le_mul_right _ hk
  refine ⟨by rw [List.length_take, h.1]; omega, fun hn => ?_⟩
  obtain ⟨b, off, e, hz, hb, hc⟩ := h.2 (by omega)
  refine ⟨b, off, e, hz, hb, fun j u hu => hc j u ?_⟩
  rw [List.getElem?_take] at hu
  split at hu
  · exact hu
  · cases hu
/-- s[k:] -/
theorem drop (h : Rd w Z size A n xs) {k cap : Nat} (hk : k ≤ n) (hc : n ≤ cap) : Rd w Z size (if cap = k then A else A.map (·.add (k * size))) (n - k) (xs.drop (k * size)) := by
  refine ⟨by rw [List.length_drop, h.1, Nat.sub_mul], fun hn => ?_⟩
  have hkn : k < n := by
    rcases Nat.lt_or_ge k n with h1 | h1
    · exact h1
    · rw [show n - k = 0 by omega] at hn; simp at hn
  have hs : 0 < size := Nat.pos_of_mul_pos_left hn
  obtain ⟨b, off, rfl, hz, hb, hcell⟩ := h.2 (Nat.mul_pos (by omega) hs)
  rw [if_neg (by omega)]
  refine ⟨b, off + k * size, ?_, hz, hb, fun j u hu => ?_⟩
  · rw [Option.map_some, add_none]
  · rw [Nat.add_assoc]
    exact hcell _ u (by rw [← hu, List.getElem?_drop])
theorem of_own {base e : Nat} {c : Nat} (h : w.ownsRow base e size (.slice A n c) n xs) (hz : ∀ b, ablk A = some b → b < w.heap.size → Z b) : Rd w Z size A n xs := by
  refine ⟨h.1, fun hn => ?_⟩
  have hn' : 0 < n := Nat.pos_of_mul_pos_right hn
  obtain ⟨g, cap, hv, _, hlt⟩ := h.form hn'
  have hA : A = some ⟨g, 0, none⟩ := by injection hv
  subst hA
  refine ⟨g, 0, rfl, hz g rfl hlt, hlt, fun j u hu => ?_⟩
  have := h.cells (g := g) rfl j u hu
  rwa [add_none] at this
theorem of_block {b : Nat} {t : TypeId} {cs : Array Value} {fr : Nat × Nat} (h : w.heap[b]? = some (.cells cs t fr)) (hz : Z b) (hs : cs.size = n * size) : Rd w Z size (some ⟨b, 0, none⟩) n cs.toList := by
  refine ⟨by simpa using hs, fun _ => ⟨b, 0, rfl, hz, (Array.getElem?_eq_some_iff.1 h).1, fun j u hu => ?_⟩⟩
  rw [cell_of_row w b _ cs t fr h]
  simpa using hu
/-- a slice's literal, just laid -/
theorem lit {t : TypeId} {cs : Array Value} {b : Nat} (hs : cs.toList = xs) (hn : xs.length = n * size) (hb : b = w.heap.size) : Rd (w.alloc (.cells cs t)) (fun b => w.heap.size ≤ b) size (some ⟨b, 0, none⟩) n xs := by
  subst hs hb
  exact of_block (heap_alloc_new w _) (Nat.le_refl _) (by simpa using hn)
end Rd

/-- Block g is just the cells cs of element type t, none frozen. -/
def Blk (w : World) (g : Nat) (t : TypeId) (cs : Array Value) : Prop := w.heap[g]? = some (.cells cs t (0, 0))

namespace Blk
variable {w w' : World} {g : Nat} {t : TypeId} {cs : Array Value}
theorem lt (h : Blk w g t cs) : g < w.heap.size := (Array.getElem?_eq_some_iff.1 h).1
theorem cell (h : Blk w g t cs) (i : Nat) : w.cell? ⟨g, i, none⟩ = cs[i]? := cell_of_row w g i cs t (0, 0) h
theorem frozen (h : Blk w g t cs) (i : Nat) : w.frozen? ⟨g, i, none⟩ = false := by
  unfold Blk at h
  simp [World.frozen?, h]
theorem new (w : World) (t : TypeId) (cs : Array Value) : Blk (w.alloc (.cells cs t)) w.heap.size t cs := heap_alloc_new w _
theorem drew (h : Blk w g t cs) : Blk w.drew g t cs := h
theorem alloc (h : Blk w g t cs) (o : Obj) : Blk (w.alloc o) g t cs := (Below.heap_alloc w o g h.lt).trans h
theorem set_ (h : Blk w g t cs) (i : Nat) (u : Value) : Blk (w.setCell ⟨g, i, none⟩ u) g t (cs.setIfInBounds i u) := by
  unfold Blk at h ⊢
  simp [World.setCell, Array.getElem?_modify, h]
theorem far (h : Blk w g t cs) {p : Addr} (hp : g ≠ p.block) (u : Value) : Blk (w.setCell p u) g t cs := (Below.heap_setCell w p u g hp).trans h
theorem fr {S : Nat → Prop} (h : Blk w g t cs) (k : Fr S w w') (hs : ¬ S g) : Blk w' g t cs := (k.block g h.lt hs).trans h
theorem below (h : Blk w g t cs) (k : Below w.heap.size w w') : Blk w' g t cs := (k.block g h.lt).trans h
theorem grown {row : Option Nat} (h : Blk w g t cs) (hb : w.grownBy w' row) (hg : row ≠ some g) : Blk w' g t cs := (hb.block g h.lt (fun e => hg e.symm)).trans h
theorem ne_ {g' : Nat} {t' : TypeId} {cs' : Array Value} (h : Blk w g t cs) (h' : Blk w g' t' cs') (hne : t ≠ t') : g ≠ g' := by
  rintro rfl
  unfold Blk at h h'
  rw [h] at h'
  injection h' with h'
  injection h' with _ ht
  exact hne ht
end Blk

theorem own_fr {w w' : World} {base : Nat} {e : TypeId} {size n : Nat} {v : Value} {xs : List Value} {S : Nat → Prop} (h : w.ownsRow base e size v n xs) (k : Fr S w w') (hs : ∀ g, v.ownBlock = some g → ¬ S g) : w'.ownsRow base e size v n xs := by
  refine ⟨h.1, ?_⟩
  rcases h.2 with hn | ⟨g, cap, cur, rfl, hb, hg, r⟩
  · exact .inl hn
  · exact .inr ⟨g, cap, cur, rfl, hb, by rw [k.block g (Array.getElem?_eq_some_iff.1 hg).1 (hs g rfl)]; exact hg, r⟩
theorem own_below {w w' : World} {base : Nat} {e : TypeId} {size n : Nat} {v : Value} {xs : List Value} (h : w.ownsRow base e size v n xs) (k : Below w.heap.size w w') : w'.ownsRow base e size v n xs :=
  own_fr h (Fr.of_below k (fun _ => False)) (fun _ _ h => h)
theorem own_form {w : World} {base : Nat} {e : TypeId} {size n : Nat} {v : Value} {xs : List Value} (h : w.ownsRow base e size v n xs) : ∃ A c, v = .slice A n c ∧ n ≤ c ∧ c ≤ maxLen ∧ (∀ b, ablk A = some b → base ≤ b ∧ b < w.heap.size ∧ v.ownBlock = some b) ∧ (A = none → n = 0 ∧ c = 0) ∧ (∀ a, A = some a → a = ⟨a.block, 0, none⟩) := by
  rcases h.2 with ⟨rfl, rfl⟩ | ⟨g, cap, cur, rfl, hb, hg, hn, hm, r⟩
  · exact ⟨none, 0, rfl, Nat.le_refl _, by simp [maxLen], by simp [ablk], by simp, by simp⟩
  · exact ⟨some ⟨g, 0, none⟩, cap, rfl, hn, hm, by rintro b hb'; simp [ablk] at hb'; subst hb'; exact ⟨hb, (Array.getElem?_eq_some_iff.1 hg).1, rfl⟩, by simp, by simp⟩
theorem own_base {w : World} {base base' : Nat} {e : TypeId} {size n : Nat} {v : Value} {xs : List Value} (h : w.ownsRow base e size v n xs) (hb : ∀ g, v.ownBlock = some g → base' ≤ g) : w.ownsRow base' e size v n xs := by
  refine ⟨h.1, ?_⟩
  rcases h.2 with hn | ⟨g, cap, cur, rfl, _, r⟩
  · exact .inl hn
  · exact .inr ⟨g, cap, cur, rfl, hb g rfl, r⟩
section
variable {P : Program} (w : World)

theorem run_append_of_nil (base : Nat) (t ty e : TypeId) (i : TypeInfo) (size : Nat) (ht : P.underlying t = some (.slice e)) (hi : P.info? e = some i)
    (v : Value) (n : Nat) (xs : List Value) (hown : w.ownsRow base e size v n xs) (c : Nat) : (Builtin.append_ #[t, t] ty #[v, .slice none 0 c]).run P w = .ok v w := by
  rcases hown.2 with ⟨rfl, rfl⟩ | ⟨g, cap, cur, rfl, _, _, hnc, _⟩
  · simp [Builtin.append_, run_underlying ht, sizeOf, typeInfo, hi, Builtin.lenOf, Builtin.firstCells]
  · simp [Builtin.append_, run_underlying ht, sizeOf, typeInfo, hi, Builtin.lenOf, Builtin.firstCells, hnc, storeCells]

/-- append onto an owned row, whatever the source is -/
theorem run_append_any (base : Nat) (t ty e : TypeId) (i : TypeInfo) (z : Value) (size bytes : Nat) (ht : P.underlying t = some (.slice e)) (hi : P.info? e = some i) (hz : i.zero = some z)
    (hsize : i.size = size) (hby : i.bytes = bytes) (hzs : z.cells.size = size) (hsz : 0 < size)
    (v : Value) (n : Nat) (xs : List Value) (hown : w.ownsRow base e size v n xs)
    (Z : Nat → Prop) (A : Option Addr) (m c : Nat) (news : List Value) (hr : Rd w Z size A m news) (h1 : ∀ u ∈ news, u.oneCell' = true)
    (h63 : n + m ≤ maxLen) (hbytes : (n + m) * bytes ≤ 140737488355328) (hbase : base ≤ w.heap.size) :
    ∃ v' w', (Builtin.append_ #[t, t] ty #[v, .slice A m c]).run P w = .ok v' w' ∧ w'.ownsRow base e size v' (n + m) (xs ++ news) ∧ w.grownBy w' v.ownBlock ∧
      (v'.ownBlock = v.ownBlock ∨ v'.ownBlock = some w.heap.size) := by
  rcases A with _ | ad
  · have hm : m = 0 := by
      rcases Nat.eq_zero_or_pos m with h0 | h0
      · exact h0
      · obtain ⟨b, off, h, _⟩ := hr.2 (Nat.mul_pos h0 hsz)
        cases h
    subst hm
    have hn : news = [] := List.eq_nil_of_length_eq_zero (by simpa using hr.1)
    subst hn
    exact ⟨v, w, run_append_of_nil w base t ty e i size ht hi v n xs hown c, by simpa using hown, World.grownBy.refl w _, .inl rfl⟩
  · have hcells : ∀ j u, news[j]? = some u → w.cell? (ad.add j) = some u := by
      intro j u hu
      obtain ⟨b, off, h, _, _, hc⟩ := hr.atj hu
      injection h with h
      subst h
      rw [add_none]
      exact hc
    obtain ⟨v', w', hrun, h2, h3, _, h5⟩ := run_append_own_at (P := P) w base t ty e i z size bytes ht hi hz hsize hby hzs hsz v n xs hown ad m c news hr.1 hcells h1 h63 hbytes hbase
    exact ⟨v', w', hrun, h2, h3, h5⟩

theorem wp_append_any {o : Oper} {a : Act} {K : Act → World → Prop} {Q : Exit → Act → World → Prop} (s x : Operand) (t : TypeId)
    (ho : o.op = .call { callee := .builtin .append, args := #[s, x], argTypes := #[t, t] })
    (base : Nat) (e : TypeId) (i : TypeInfo) (z : Value) (size bytes : Nat) (ht : P.underlying t = some (.slice e)) (hi : P.info? e = some i) (hz : i.zero = some z)
    (hsize : i.size = size) (hby : i.bytes = bytes) (hzs : z.cells.size = size) (hsz : 0 < size)
    (v : Value) (n : Nat) (xs : List Value) (hs : a.eval s = v) (hown : w.ownsRow base e size v n xs)
    (Z : Nat → Prop) (A : Option Addr) (m c : Nat) (news : List Value) (hx : a.eval x = .slice A m c) (hr : Rd w Z size A m news) (h1 : ∀ u ∈ news, u.oneCell' = true)
    (h63 : n + m ≤ maxLen) (hbytes : (n + m) * bytes ≤ 140737488355328) (hbase : base ≤ w.heap.size)
    (h : ∀ v' w', w'.ownsRow base e size v' (n + m) (xs ++ news) → w.grownBy w' v.ownBlock → (v'.ownBlock = v.ownBlock ∨ v'.ownBlock = some w.heap.size) → K (a.put o.dst v') w') : o.wp P a w K Q := by
  obtain ⟨v', w', hrun, h2, h3, h4⟩ := run_append_any (P := P) w base t o.type e i z size bytes ht hi hz hsize hby hzs hsz v n xs hown Z A m c news hr h1 h63 hbytes hbase
  unfold Oper.wp execOp
  simp only [ho, resolve, invoke, builtin, Sem.run_bind, Sem.run_pure, Result.andThen_ok, List.map_toArray, List.map_cons, List.map_nil, hs, hx, hrun]
  exact h v' w' h2 h3 h4

theorem wpList_append_any {ops : Array Oper} {rest : List Oper} {o : Oper} {a : Act} {Q : Exit → Act → World → Prop} (hgd : o.guard = none) (s x : Operand) (t : TypeId)
    (ho : o.op = .call { callee := .builtin .append, args := #[s, x], argTypes := #[t, t] })
    (base : Nat) (e : TypeId) (i : TypeInfo) (z : Value) (size bytes : Nat) (ht : P.underlying t = some (.slice e)) (hi : P.info? e = some i) (hz : i.zero = some z)
    (hsize : i.size = size) (hby : i.bytes = bytes) (hzs : z.cells.size = size) (hsz : 0 < size)
    (v : Value) (n : Nat) (xs : List Value) (hs : a.eval s = v) (hown : w.ownsRow base e size v n xs)
    (Z : Nat → Prop) (A : Option Addr) (m c : Nat) (news : List Value) (hx : a.eval x = .slice A m c) (hr : Rd w Z size A m news) (h1 : ∀ u ∈ news, u.oneCell' = true)
    (h63 : n + m ≤ maxLen) (hbytes : (n + m) * bytes ≤ 140737488355328) (hbase : base ≤ w.heap.size)
    (h : ∀ v' w', w'.ownsRow base e size v' (n + m) (xs ++ news) → w.grownBy w' v.ownBlock → (v'.ownBlock = v.ownBlock ∨ v'.ownBlock = some w.heap.size) → wpList P ops Q rest (a.put o.dst v') w') : wpList P ops Q (o :: rest) a w :=
  wpList_plain hgd fun _ hK => wp_append_any w s x t ho base e i z size bytes ht hi hz hsize hby hzs hsz v n xs hs hown Z A m c news hx hr h1 h63 hbytes hbase fun v' w' h2 h3 h4 => hK _ _ (h v' w' h2 h3 h4)

end

/-- a byte as a value -/
def bv (x : UInt8) : Value := .int .u8 (x.toNat : Int)
theorem bv_one (l : List UInt8) : ∀ u ∈ l.map bv, u.oneCell' = true := by
  intro u hu
  obtain ⟨x, _, rfl⟩ := List.mem_map.1 hu
  rfl
/-- the slice's address A reads as the bytes l -/
def By (w : World) (Z : Nat → Prop) (A : Option Addr) (l : List UInt8) : Prop := Rd w Z 1 A l.length (l.map bv)
/-- v owns a row of the bytes l -/
def OwB (w : World) (base : Nat) (v : Value) (l : List UInt8) : Prop := w.ownsRow base 5 1 v l.length (l.map bv)
theorem u8_info : (Try.prog.info? 5).map (fun i => (i.zero, i.size, i.bytes)) = some (some (.int .u8 0), 1, 1) := by kernel_rfl

theorem OwB.nil (w : World) (base : Nat) : OwB w base (.slice none 0 0) [] := World.ownsRow_nil _ _ _ _
theorem OwB.below {w w' : World} {base : Nat} {v : Value} {l : List UInt8} (h : OwB w base v l) (k : Below w.heap.size w w') : OwB w' base v l := own_below h k
theorem OwB.fr {w w' : World} {base : Nat} {v : Value} {l : List UInt8} {S : Nat → Prop} (h : OwB w base v l) (k : Fr S w w') (hs : ∀ g, v.ownBlock = some g → ¬ S g) : OwB w' base v l := own_fr h k hs
theorem OwB.alloc {w : World} {base : Nat} {v : Value} {l : List UInt8} (h : OwB w base v l) (o : Obj) : OwB (w.alloc o) base v l := World.ownsRow.alloc h o
/-- the form of an owned row of bytes -/
theorem OwB.form {w : World} {base : Nat} {v : Value} {l : List UInt8} (h : OwB w base v l) : ∃ A c, v = .slice A l.length c ∧ l.length ≤ c ∧ c ≤ maxLen ∧ (∀ b, ablk A = some b → base ≤ b ∧ b < w.heap.size ∧ v.ownBlock = some b) := by
  obtain ⟨A, c, h1, h2, h3, h4, _⟩ := own_form h
  exact ⟨A, c, h1, h2, h3, h4⟩
theorem OwB.rd {w : World} {base : Nat} {A : Option Addr} {c : Nat} {l : List UInt8} (h : OwB w base (.slice A l.length c) l) : By w (fun b => ablk A = some b) A l := Rd.of_own h (fun _ hb _ => hb)
theorem By.below {w w' : World} {Z : Nat → Prop} {A : Option Addr} {l : List UInt8} (h : By w Z A l) (k : Below w.heap.size w w') : By w' Z A l := Rd.below h k
theorem By.alloc {w : World} {Z : Nat → Prop} {A : Option Addr} {l : List UInt8} (h : By w Z A l) (o : Obj) : By (w.alloc o) Z A l := Rd.alloc h o
theorem By.fr {w w' : World} {Z S : Nat → Prop} {A : Option Addr} {l : List UInt8} (h : By w Z A l) (k : Fr S w w') (hs : ∀ b, b < w.heap.size → Z b → ¬ S b) : By w' Z A l := Rd.fr h k hs
theorem By.mono {w : World} {Z Z' : Nat → Prop} {A : Option Addr} {l : List UInt8} (h : By w Z A l) (hz : ∀ b, b < w.heap.size → Z b → Z' b) : By w Z' A l := Rd.mono h hz

theorem wpList_append_by {w : World} {ops : Array Oper} {rest : List Oper} {o : Oper} {a : Act} {Q : Exit → Act → World → Prop} (hgd : o.guard = none) (s x : Operand)
    (ho : o.op = .call { callee := .builtin .append, args := #[s, x], argTypes := #[31, 31] })
    {base : Nat} {v : Value} {l m : List UInt8} {Z : Nat → Prop} {A : Option Addr} {c : Nat} (hs : a.eval s = v) (hown : OwB w base v l) (hx : a.eval x = .slice A m.length c) (hr : By w Z A m)
    (hsum : l.length + m.length ≤ 140737488355328) (hbase : base ≤ w.heap.size)
    (h : ∀ (L : List UInt8) (A' : Option Addr) (c' : Nat) (w' : World), Hid (L = l ++ m) → OwB w' base (.slice A' L.length c') L → w.grownBy w' v.ownBlock → ((Value.slice A' L.length c').ownBlock = v.ownBlock ∨ (Value.slice A' L.length c').ownBlock = some w.heap.size) → wpList Try.prog ops Q rest (a.put o.dst (.slice A' L.length c')) w') : wpList Try.prog ops Q (o :: rest) a w := by
  obtain ⟨i0, hi0, hz0, hz1, hz2⟩ := info_parts u8_info
  refine wpList_append_any w hgd s x _ ho base 5 i0 _ 1 1 Try.underlying31 hi0 hz0 hz1 hz2 rfl (by omega) v l.length (l.map bv) hs hown Z A m.length c (m.map bv) hx hr (bv_one m) (by simp only [maxLen]; omega) (by omega) hbase ?_
  intro v' w' h1 h2 h3
  have ho : OwB w' base v' (l ++ m) := by
    unfold OwB
    rw [List.length_append, List.map_append]
    exact h1
  obtain ⟨A', c', rfl, _⟩ := ho.form
  exact h (l ++ m) A' c' w' rfl ho h2 h3
/-- string(b) -/
theorem conv_by {w : World} {Z : Nat → Prop} {A : Option Addr} {l : List UInt8} (h : By w Z A l) (c : Nat) :
    (convert 31 9 (.slice A l.length c)).run Try.prog w = .ok (.string ⟨l.toArray⟩) w := by
  rcases A with _ | a
  · have hl : l = [] := by
      rcases l with _ | ⟨x, l⟩
      · rfl
      · obtain ⟨b, off, e, _⟩ := h.2 (by simp); cases e
    subst hl
    rw [run_convert_bytes_nil w 31 5 Try.underlying31 Try.underlying5 _ _ 9 Try.underlying9]
    rfl
  · rw [run_convert_bytes_string w 31 9 5 _ _ c Try.underlying31 Try.underlying5 Try.underlying9]
    have hn : l.map bv = (l.map fun x => (x.toNat : Int)).map (Value.int .u8) := by simp [bv, Function.comp_def]
    have hload : (loadCells a l.length).run Try.prog w = .ok ((l.map fun x => (x.toNat : Int)).map (Value.int .u8)).toArray w := by
      rw [← hn]
      have := run_loadCells_list (P := Try.prog) w a (l.map bv) (fun j v hj => by
        obtain ⟨b, off, e, _, _, hc⟩ := Rd.atj h hj
        injection e with e
        subst e
        rw [add_none]
        exact hc)
      rw [List.length_map] at this
      exact this
    rw [run_bytesToString w a l.length c _ hload, foldl_push_bytes]
    congr 2
    apply ByteArray.ext
    show ByteArray.empty.data ++ _ = _
    rw [show ByteArray.empty.data = #[] from rfl]
    simp [Function.comp_def]

/-- a byte slice as a value, and what it reads as -/
structure BV where
  A : Option Addr
  c : Nat
  l : List UInt8
abbrev BV.v (x : BV) : Value := .slice x.A x.l.length x.c
def BV.ok (w : World) (Z : Nat → Prop) (x : BV) : Prop := By w Z x.A x.l ∧ x.l.length ≤ x.c ∧ x.c ≤ maxLen
theorem BV.ok.by_ {w : World} {Z : Nat → Prop} {x : BV} (h : x.ok w Z) : By w Z x.A x.l := h.1
theorem BV.ok.fr {w w' : World} {Z S : Nat → Prop} {x : BV} (h : x.ok w Z) (k : Fr S w w') (hs : ∀ b, b < w.heap.size → Z b → ¬ S b) : x.ok w' Z := ⟨h.1.fr k hs, h.2⟩
theorem BV.ok.below {w w' : World} {Z : Nat → Prop} {x : BV} (h : x.ok w Z) (k : Below w.heap.size w w') : x.ok w' Z := ⟨h.1.below k, h.2⟩
theorem BV.ok.mono {w : World} {Z Z' : Nat → Prop} {x : BV} (h : x.ok w Z) (hz : ∀ b, b < w.heap.size → Z b → Z' b) : x.ok w Z' := ⟨h.1.mono hz, h.2⟩
end Go.Proofs.Yticfjnjeoikalaa

/- Arguments opened: slices of whatever, structs, with the form's own reach. -/
namespace Go.Proofs.Yticfjnjeoikalaa
open Go.RowKit Go.WideShapes Go.ChangeShapes Go.ChangeAt Go.Deep

theorem bv_of {m : Nat} (h : m < 256) : bv (UInt8.ofNat m) = .int .u8 (m : Int) := by
  unfold bv
  rw [UInt8.toNat_ofNat', Nat.mod_eq_of_lt h]

section
variable {H : Type} {enc : TypeId × Value → H} {w : World} {spare : Nat → Bool} {held : Bool}

/-- a reading within the form's reach -/
def Within (t : TypeId) (x : DataW H × List MemPlace) : Prop := ∀ k ∈ x.1.weights Try.prog t, k ≤ reachBytes

theorem weightsAll_mem {P : Program} {e : TypeId} {d : DataW H} {k : Nat} (hk : k ∈ d.weights P e) : ∀ {l : List (DataW H)}, d ∈ l → k ∈ DataW.weightsAll P e l
  | x :: l, h => by
    rw [DataW.weightsAll, List.mem_append]
    rcases List.mem_cons.1 h with rfl | h
    · exact .inl hk
    · exact .inr (weightsAll_mem hk h)

theorem pick_list {α : Type} {p : Nat → α → Prop} : ∀ n, (∀ i, i < n → ∃ a, p i a) → ∃ l : List α, l.length = n ∧ ∀ i (hi : i < l.length), p i l[i]
  | 0, _ => ⟨[], rfl, by simp⟩
  | k + 1, h => by
    obtain ⟨l, h1, h2⟩ := pick_list k (fun i hi => h i (by omega))
    obtain ⟨al, hal⟩ := h k (by omega)
    refine ⟨l ++ [al], by simp [h1], fun i hi => ?_⟩
    rcases Nat.lt_or_ge i l.length with hlt | hge
    · rw [List.getElem_append_left hlt]; exact h2 i hlt
    · have : i = k := by simp at hi; omega
      subst this
      rw [List.getElem_append_right (by omega)]
      simpa [h1] using hal

theorem flat_at {α : Type} (f : α → List Value) (k : Nat) : ∀ (l : List α), (∀ x ∈ l, (f x).length = k) → ∀ (i j : Nat) (hi : i < l.length), j < k → (l.flatMap f)[i * k + j]? = (f l[i])[j]?
  | x :: l, h, 0, j, _, hj => by
    rw [List.flatMap_cons, List.getElem?_append_left (by rw [h x (by simp)]; omega)]
    simp
  | x :: l, h, i + 1, j, hi, hj => by
    have hx := h x (by simp)
    have e : (i + 1) * k + j - (f x).length = i * k + j := by rw [hx, Nat.add_mul]; omega
    rw [List.flatMap_cons, List.getElem?_append_right (by rw [hx, Nat.add_mul]; omega), e, flat_at f k l (fun y hy => h y (by simp [hy])) i j (by simpa using hi) hj]
    simp

theorem open_sl {α : Type} (f : α → List Value) (ok : α → Prop) (sz by_ : Nat) {t e : TypeId} (ht : Try.prog.underlying t = some (.slice e)) (hC : Try.prog.cellsOf e = sz) (hB : Try.prog.bytesOf e = by_) (hsz : 0 < sz)
    (hel : ∀ (n : Nat) (cs : List Value) (x : DataW H × List MemPlace), DataW.trod enc Try.prog w 0 spare held n e cs = some x → Within e x → ∃ a, cs = f a ∧ ok a)
    {n : Nat} {v : Value} {x : DataW H × List MemPlace} (h : DataW.trod enc Try.prog w 0 spare held n t [v] = some x) (hw : Within t x) :
    ∃ (A : Option Addr) (c : Nat) (l : List α), v = .slice A l.length c ∧ l.length ≤ c ∧ c ≤ maxLen ∧ Rd w (fun b => b < w.heap.size) sz A l.length (l.flatMap f) ∧ (∀ a ∈ l, ok a) ∧ l.length * by_ ≤ reachBytes := by
  rcases open_slice ht h with ⟨hcs, _⟩ | ⟨a, len, cap, m, n', D, Pl, hcs, _, hl, hm, hmm, hx, hi⟩
  · obtain rfl := List.singleton_inj.1 hcs
    exact ⟨none, 0, [], rfl, Nat.le_refl _, by simp [maxLen], Rd.nil, by simp, by simp⟩
  · obtain rfl := List.singleton_inj.1 hcs
    have hlm : len ≤ m := by rw [hmm]; split <;> omega
    have hwt : ∀ k, k ∈ (len + (m - len)) * by_ :: (DataW.weightsAll Try.prog e ((List.range len).map D) ++ DataW.weightsAll Try.prog e ((List.range (m - len)).map fun j => D (len + j))) → k ≤ reachBytes := by
      intro k hk
      refine hw k ?_
      rw [hx]
      simp only [DataW.weights, ht, List.length_map, List.length_range, hB]
      exact hk
    have hch : ∀ i, i < len → ∃ al : α, ok al ∧ w.cells? 0 (a.add (i * sz)) sz = some (f al) := by
      intro i hil
      obtain ⟨cs', h1, h2⟩ := hi i (by omega)
      obtain ⟨al, rfl, hok⟩ := hel n' cs' _ h2 (fun k hk => hwt k (by
        refine List.mem_cons_of_mem _ (List.mem_append.2 (.inl (weightsAll_mem hk ?_)))
        exact List.mem_map.2 ⟨i, List.mem_range.2 hil, rfl⟩))
      rw [hC] at h1
      exact ⟨al, hok, h1⟩
    obtain ⟨l, rfl, hpl⟩ := pick_list len hch
    have hok : ∀ al ∈ l, ok al := by
      intro al hal
      obtain ⟨i, hil, rfl⟩ := List.getElem_of_mem hal
      exact (hpl i hil).1
    have hcells : ∀ i (hi : i < l.length), w.cells? 0 (a.add (i * sz)) sz = some (f l[i]) := fun i hil => (hpl i hil).2
    have hfl : ∀ i (hi : i < l.length), (f l[i]).length = sz ∧ ∀ j u, (f l[i])[j]? = some u → w.cell? ((a.add (i * sz)).add j) = some u := by
      intro i hi
      obtain ⟨_, hcl, hat⟩ := World.cells?_some (hcells i hi)
      refine ⟨hcl, fun j u hu => ?_⟩
      have hj : j < (f l[i]).length := (List.getElem?_eq_some_iff.1 hu).1
      rw [hat j (by omega), hu]
    refine ⟨some a, cap, l, rfl, by omega, hm, ?_, hok, ?_⟩
    · have hget : ∀ (l' : List α), (∀ x ∈ l', (f x).length = sz) → (l'.flatMap f).length = l'.length * sz := by
        intro l' h'
        induction l' with
        | nil => simp
        | cons x l' ih => rw [List.flatMap_cons, List.length_append, h' x (by simp), ih (fun y hy => h' y (by simp [hy])), List.length_cons, Nat.add_mul]; omega
      have hall : ∀ x ∈ l, (f x).length = sz := by
        intro x hx
        obtain ⟨i, hi, rfl⟩ := List.getElem_of_mem hx
        exact (hfl i hi).1
      refine ⟨hget l hall, fun hpos => ?_⟩
      have hl0 : 0 < l.length := Nat.pos_of_mul_pos_right hpos
      obtain ⟨u0, hu0⟩ : ∃ u, (f l[0])[0]? = some u := ⟨_, List.getElem?_eq_getElem (by rw [(hfl 0 hl0).1]; exact hsz)⟩
      have h0 := (hfl 0 hl0).2 0 u0 hu0
      have ha0 : (a.add (0 * sz)).add 0 = a := by simp [Addr.add]
      rw [ha0] at h0
      have hspot : a = ⟨a.block, a.off, none⟩ := by
        obtain ⟨b, o, s⟩ := a
        rcases s with _ | s
        · rfl
        · exfalso
          unfold World.cell? at h0
          split at h0 <;> simp at h0
      refine ⟨a.block, a.off, by rw [← hspot], World.block_lt_of_cell? w a h0, World.block_lt_of_cell? w a h0, fun j u hu => ?_⟩
      have hj := (List.getElem?_eq_some_iff.1 hu).1
      rw [hget l hall] at hj
      have hi : j / sz < l.length := by rw [Nat.div_lt_iff_lt_mul hsz]; exact hj
      have hjm : j = j / sz * sz + j % sz := by rw [Nat.mul_comm]; exact (Nat.div_add_mod j sz).symm
      have hg := flat_at f sz l hall (j / sz) (j % sz) hi (Nat.mod_lt _ hsz)
      rw [← hjm, hu] at hg
      have := (hfl _ hi).2 (j % sz) u hg.symm
      rw [hspot, add_none, add_none, Nat.add_assoc, ← hjm] at this
      exact this
    · have := hwt _ (List.mem_cons_self)
      refine Nat.le_trans (Nat.mul_le_mul_right _ ?_) this
      omega

theorem flat_single {α : Type} (g : α → Value) : ∀ l : List α, (l.flatMap fun a => [g a]) = l.map g
  | [] => rfl
  | x :: l => by rw [List.flatMap_cons, flat_single g l]; rfl

/-- a []byte -/
theorem open_bv {n : Nat} {v : Value} {x : DataW H × List MemPlace} (h : DataW.trod enc Try.prog w 0 spare held n 31 [v] = some x) (hw : Within 31 x) :
    ∃ b : BV, v = b.v ∧ b.ok w (fun b => b < w.heap.size) ∧ b.l.length ≤ 140737488355328 := by
  obtain ⟨A, c, l, rfl, h1, h2, h3, _, h5⟩ := open_sl (w := w) (enc := enc) (spare := spare) (held := held) (fun x : UInt8 => [bv x]) (fun _ => True) 1 1 (t := 31) (e := 5) Try.underlying31 (by kernel_rfl) (by kernel_rfl) (by omega)
    (fun n cs x hx _ => by
      obtain ⟨m, rfl, _, hwf⟩ := DataW.trod_int Try.underlying5 hx
      have hb := u8_bd hwf
      refine ⟨UInt8.ofNat m.toNat, ?_, trivial⟩
      rw [bv_of (by omega)]
      congr 2
      omega) h hw
  refine ⟨⟨A, c, l⟩, rfl, ⟨?_, h1, h2⟩, ?_⟩
  · rw [flat_single] at h3; exact h3
  · have := reachBytes_lt
    simp only at *
    omega

/-- a struct of one-cell fields, as an element or a parameter -/
theorem open_st {t : TypeId} {fs : Array Field} (hs : Try.prog.underlying t = some (.struct fs)) (hone : oneCellFields Try.prog fs = true)
    {n : Nat} {cs : List Value} {x : DataW H × List MemPlace} (h : DataW.trod enc Try.prog w 0 spare held n t cs = some x) (hC : Try.prog.cellsOf t = fs.size) (hw : Within t x) :
    ∃ (ys : List (DataW H × List MemPlace)) (n' : Nat), cs.length = fs.size ∧ ys.length = fs.size ∧
      ∀ (j : Nat) (f : Field) (c : Value) (y : DataW H × List MemPlace), fs[j]? = some f → cs[j]? = some c → ys[j]? = some y → DataW.trod enc Try.prog w 0 spare held n' f.type [c] = some y ∧ Within f.type y := by
  obtain ⟨xs, n', _, hx, hl, hlen, hg⟩ := DataW.trod_struct hs h
  rw [hC] at hl
  refine ⟨xs, n', hl, hlen, fun j f c y hj hc hy => ⟨?_, ?_⟩⟩
  · obtain ⟨ho, hk⟩ := hone_of hone j f hj
    have h1 := hg j f hj
    rw [ho, hk] at h1
    have hjl : j < cs.length := by have := (Array.getElem?_eq_some_iff.1 hj).1; omega
    have e : (cs.drop j).take 1 = [c] := by
      rw [List.drop_eq_getElem_cons hjl, List.take_succ_cons, List.take_zero]
      rw [List.getElem?_eq_getElem hjl] at hc
      simpa using hc
    rw [e] at h1
    rw [h1, hy]
  · intro k hk
    refine hw k ?_
    rw [hx]
    simp only [DataW.weights, hs]
    refine DataW.weights_mem_each (j := j) (t := f.type) (d := y.1) ?_ ?_ k hk
    · rw [List.getElem?_map]
      have : fs.toList[j]? = some f := by simpa using hj
      rw [this]; rfl
    · rw [List.getElem?_map, hy]; rfl

theorem within_of {ts : List TypeId} {ds : List (DataW H)} {p : List MemPlace} (h : (DataW.weightsEach Try.prog ts ds).all (· ≤ reachBytes) = true) {j : Nat} {t : TypeId} {d : DataW H} (ht : ts[j]? = some t) (hd : ds[j]? = some d) : Within t (d, p) := by
  intro k hk
  have := List.all_eq_true.1 h _ (DataW.weights_mem_each ht hd k hk)
  simpa using this
end
end Go.Proofs.Yticfjnjeoikalaa

/- A row of a call's own at any offset: cells, stores, tails, append. No function of the program. -/
namespace Go.Proofs.Yticfjnjeoikalaa
open Go.RowKit

/-- A is n elements of so many cells, with room for c, in a block of its own (element type e) at or beyond base. -/
structure Row (w : World) (base : Nat) (e : TypeId) (size : Nat) (A : Option Addr) (n c : Nat) (xs : List Value) : Prop where
  len : xs.length = n * size
  room : n ≤ c
  cap : c ≤ maxLen
  nil : A = none → n = 0 ∧ c = 0
  at_ : ∀ a, A = some a → ∃ g off cur, a = ⟨g, off, none⟩ ∧ base ≤ g ∧ Blk w g e cur ∧ off + c * size ≤ cur.size ∧ ∀ j u, xs[j]? = some u → cur[off + j]? = some u

namespace Row
variable {w w' : World} {base size n c : Nat} {e : TypeId} {A : Option Addr} {xs : List Value}
theorem none_ (w : World) (base : Nat) (e : TypeId) (size : Nat) : Row w base e size none 0 0 [] := ⟨by simp, Nat.le_refl _, by simp [maxLen], fun _ => ⟨rfl, rfl⟩, fun a h => by cases h⟩
theorem fr {S : Nat → Prop} (h : Row w base e size A n c xs) (k : Fr S w w') (hs : ∀ g, ablk A = some g → ¬ S g) : Row w' base e size A n c xs :=
  ⟨h.len, h.room, h.cap, h.nil, fun a ha => by
    obtain ⟨g, off, cur, e1, hb, hk, hsz, hc⟩ := h.at_ a ha
    exact ⟨g, off, cur, e1, hb, hk.fr k (hs g (by rw [ha, e1]; rfl)), hsz, hc⟩⟩
theorem below (h : Row w base e size A n c xs) (k : Below w.heap.size w w') : Row w' base e size A n c xs := h.fr (Fr.of_below k (fun _ => False)) (fun _ _ h => h)
theorem alloc (h : Row w base e size A n c xs) (o : Obj) : Row (w.alloc o) base e size A n c xs := h.below ((Below.refl _ _).alloc (Nat.le_refl _) o)
theorem drew (h : Row w base e size A n c xs) : Row w.drew base e size A n c xs := h.below (Below.refl _ _).drew
theorem lt (h : Row w base e size A n c xs) : ∀ g, ablk A = some g → base ≤ g ∧ g < w.heap.size := by
  intro g hg
  rcases A with _ | a
  · cases hg
  · obtain ⟨g', off, cur, e1, hb, hk, _⟩ := h.at_ a rfl
    subst e1
    injection hg with hg
    exact hg ▸ ⟨hb, hk.lt⟩
theorem rebase {base' : Nat} (h : Row w base e size A n c xs) (hb : ∀ g, ablk A = some g → base' ≤ g) : Row w base' e size A n c xs :=
  ⟨h.len, h.room, h.cap, h.nil, fun a ha => by
    obtain ⟨g, off, cur, e1, _, r⟩ := h.at_ a ha
    exact ⟨g, off, cur, e1, hb g (by rw [ha, e1]; rfl), r⟩⟩
theorem ne_blk {g : Nat} {t : TypeId} {cs : Array Value} (h : Row w base e size A n c xs) (hb : Blk w g t cs) (hne : e ≠ t) : ablk A ≠ some g := by
  intro hg
  rcases A with _ | a
  · cases hg
  · obtain ⟨g', off, cur, e1, _, hk, _⟩ := h.at_ a rfl
    subst e1
    injection hg with hg
    have hg' : g' = g := hg
    subst hg'
    exact Blk.ne_ hk hb hne rfl
theorem of_own (h : w.ownsRow base e size (.slice A n c) n xs) : Row w base e size A n c xs := by
  rcases h.2 with ⟨hv, hn⟩ | ⟨g, cap, cur, hv, hb, hg, hn, hm, hs, ht⟩
  · injection hv with h1 h2 h3
    subst h1 h2 h3
    exact ⟨h.1, Nat.le_refl _, by simp [maxLen], fun _ => ⟨rfl, rfl⟩, fun a ha => by cases ha⟩
  · injection hv with h1 h2 h3
    subst h1 h3
    refine ⟨h.1, hn, hm, fun h => (by cases h), fun a ha => ?_⟩
    injection ha with ha
    subst ha
    refine ⟨g, 0, cur, rfl, hb, hg, by omega, fun j u hu => ?_⟩
    rw [← ht, List.getElem?_take] at hu
    split at hu
    · simpa using hu
    · cases hu
theorem cell {g off : Nat} (h : Row w base e size (some ⟨g, off, none⟩) n c xs) {j : Nat} {u : Value} (hu : xs[j]? = some u) : w.cell? ⟨g, off + j, none⟩ = some u := by
  obtain ⟨g', off', cur, e1, _, hk, _, hc⟩ := h.at_ _ rfl
  injection e1 with h1 h2
  subst h1 h2
  rw [hk.cell, hc j u hu]
theorem frozen {g off : Nat} (h : Row w base e size (some ⟨g, off, none⟩) n c xs) (i : Nat) : w.frozen? ⟨g, i, none⟩ = false := by
  obtain ⟨g', off', cur, e1, _, hk, _, _⟩ := h.at_ _ rfl
  injection e1 with h1 h2
  subst h1 h2
  exact hk.frozen i
theorem addr (h : Row w base e size A n c xs) (hn : 0 < n) : ∃ g off, A = some ⟨g, off, none⟩ ∧ base ≤ g ∧ g < w.heap.size := by
  rcases A with _ | a
  · have := (h.nil rfl).1; omega
  · obtain ⟨g, off, cur, e1, hb, hk, _⟩ := h.at_ a rfl
    exact ⟨g, off, by rw [e1], hb, hk.lt⟩
theorem rd (h : Row w base e size A n c xs) : Rd w (fun b => ablk A = some b) size A n xs := by
  refine ⟨h.len, fun hn => ?_⟩
  have hn' : 0 < n := Nat.pos_of_mul_pos_right hn
  obtain ⟨g, off, rfl, hb, hlt⟩ := h.addr hn'
  exact ⟨g, off, rfl, rfl, hlt, fun j u hu => h.cell hu⟩
theorem put {g off : Nat} (h : Row w base e size (some ⟨g, off, none⟩) n c xs) (j : Nat) (u : Value) : Row (w.setCell ⟨g, off + j, none⟩ u) base e size (some ⟨g, off, none⟩) n c (xs.set j u) := by
  obtain ⟨g', off', cur, e1, hb, hk, hs, hc⟩ := h.at_ _ rfl
  injection e1 with h1 h2
  subst h1 h2
  refine ⟨by rw [List.length_set]; exact h.len, h.room, h.cap, fun h => (by cases h), fun a ha => ?_⟩
  injection ha with ha
  subst ha
  refine ⟨g, off, _, rfl, hb, hk.set_ (off + j) u, by simpa using hs, fun i v hv => ?_⟩
  rw [List.getElem?_set] at hv
  split at hv
  · rename_i hij
    subst hij
    split at hv
    · rename_i hjl
      have hlt : off + j < cur.size := by
        have := hc j _ (List.getElem?_eq_getElem hjl)
        exact (Array.getElem?_eq_some_iff.1 this).1
      rw [Array.getElem?_setIfInBounds_self_of_lt hlt]
      exact hv
    · cases hv
  · rename_i hij
    rw [Array.getElem?_setIfInBounds_ne (by omega)]
    exact hc i v hv
/-- s[k:] -/
theorem tail (h : Row w base e size A n c xs) {k : Nat} (hk : k ≤ n) : Row w base e size (if c = k then A else A.map (·.add (k * size))) (n - k) (c - k) (xs.drop (k * size)) := by
  have hr := h.room
  refine ⟨by rw [List.length_drop, h.len, Nat.sub_mul], by omega, by have := h.cap; omega, ?_, ?_⟩
  · intro hA
    split at hA
    · rename_i hck
      have := h.nil hA
      omega
    · rcases A with _ | a
      · have := h.nil rfl; omega
      · cases hA
  · intro a ha
    split at ha
    · rename_i hck
      obtain ⟨g, off, cur, e1, hb, hbk, hs, hc⟩ := h.at_ a ha
      refine ⟨g, off, cur, e1, hb, hbk, by rw [show c - k = 0 by omega]; omega, fun j u hu => ?_⟩
      have hn : n = k := by omega
      rw [List.drop_of_length_le (by rw [h.len, hn]; exact Nat.le_refl _)] at hu
      simp at hu
    · rcases A with _ | a0
      · cases ha
      · obtain ⟨g, off, cur, e1, hb, hbk, hs, hc⟩ := h.at_ a0 rfl
        subst e1
        injection ha with ha
        replace ha : (⟨g, off, none⟩ : Addr).add (k * size) = a := ha
        rw [add_none] at ha
        subst ha
        have hmul : (c - k) * size = c * size - k * size := Nat.sub_mul _ _ _
        have hle : k * size ≤ c * size := Nat.mul_le_mul_right _ (by omega)
        refine ⟨g, off + k * size, cur, rfl, hb, hbk, by omega, fun j u hu => ?_⟩
        rw [Nat.add_assoc]
        exact hc _ u (by rw [← hu, List.getElem?_drop])
/-- s[:k:k] -/
theorem head (h : Row w base e size A n c xs) {k : Nat} (hk : k ≤ n) : Row w base e size A k k (xs.take (k * size)) := by
  have hr := h.room
  have hle : k * size ≤ n * size := Nat.mul_le_mul_right _ hk
  refine ⟨by rw [List.length_take, h.len]; omega, Nat.le_refl _, by have := h.cap; omega, fun hA => by have := h.nil hA; omega, fun a ha => ?_⟩
  obtain ⟨g, off, cur, e1, hb, hbk, hs, hc⟩ := h.at_ a ha
  have : k * size ≤ c * size := Nat.mul_le_mul_right _ (by omega)
  refine ⟨g, off, cur, e1, hb, hbk, by omega, fun j u hu => ?_⟩
  rw [List.getElem?_take] at hu
  split at hu
  · exact hc j u hu
  · cases hu
end Row

theorem blk_setCells {g : Nat} {t : TypeId} : ∀ (vs : List Value) (o : Nat) {w : World} {cs : Array Value}, Blk w g t cs → ∃ cs', Blk (w.setCells g o vs) g t cs' ∧ cs'.size = cs.size
  | [], o, w, cs, h => ⟨cs, h, rfl⟩
  | v :: vs, o, w, cs, h => by
    obtain ⟨cs', h1, h2⟩ := blk_setCells vs (o + 1) (h.set_ o v)
    exact ⟨cs', h1, by rw [h2]; simp⟩
theorem grown_setCells (g : Nat) : ∀ (vs : List Value) (o : Nat) (w : World), w.grownBy (w.setCells g o vs) (some g)
  | [], o, w => World.grownBy.refl w _
  | v :: vs, o, w => by
    have h1 : w.grownBy (w.setCell ⟨g, o, none⟩ v) (some g) := ⟨rfl, rfl, rfl, by simp [World.setCell], fun k _ hk => Below.heap_setCell w ⟨g, o, none⟩ v k (fun e => hk (by rw [e]))⟩
    have h2 := grown_setCells g vs (o + 1) (w.setCell ⟨g, o, none⟩ v)
    exact h1.trans h2

section
variable {P : Program} (w : World)
theorem run_append_row (base : Nat) (t ty e : TypeId) (i : TypeInfo) (z : Value) (size bytes : Nat) (ht : P.underlying t = some (.slice e)) (hi : P.info? e = some i) (hz : i.zero = some z)
    (hsize : i.size = size) (hby : i.bytes = bytes) (hzs : z.cells.size = size) (hsz : 0 < size)
    {A : Option Addr} {n c : Nat} {xs : List Value} (h : Row w base e size A n c xs)
    {Z : Nat → Prop} {B : Option Addr} {m d : Nat} {news : List Value} (hr : Rd w Z size B m news) (h1 : ∀ u ∈ news, u.oneCell' = true)
    (h63 : n + m ≤ maxLen) (hbytes : (n + m) * bytes ≤ 140737488355328) (hbase : base ≤ w.heap.size) :
    ∃ A' c' w', (Builtin.append_ #[t, t] ty #[.slice A n c, .slice B m d]).run P w = .ok (.slice A' (n + m) c') w' ∧ Row w' base e size A' (n + m) c' (xs ++ news) ∧ w.grownBy w' (ablk A) ∧ (∀ g, ablk A' = some g → ablk A = some g ∨ w.heap.size ≤ g) := by
  rcases B with _ | ad
  · have hm : m = 0 := by
      rcases Nat.eq_zero_or_pos m with h0 | h0
      · exact h0
      · obtain ⟨b, off, hh, _⟩ := hr.2 (Nat.mul_pos h0 hsz)
        cases hh
    subst hm
    have hn : news = [] := List.eq_nil_of_length_eq_zero (by simpa using hr.1)
    subst hn
    refine ⟨A, c, w, ?_, by simpa using h, World.grownBy.refl w _, fun g hg => .inl hg⟩
    rcases A with _ | a
    · obtain ⟨rfl, rfl⟩ := h.nil rfl
      simp [Builtin.append_, run_underlying ht, sizeOf, typeInfo, hi, Builtin.lenOf, Builtin.firstCells]
    · have := h.room
      simp [Builtin.append_, run_underlying ht, sizeOf, typeInfo, hi, Builtin.lenOf, Builtin.firstCells, this, storeCells]
  · have hnews : ∀ j u, news[j]? = some u → w.cell? (ad.add j) = some u := by
      intro j u hu
      obtain ⟨b, off, hh, _, _, hc⟩ := hr.atj hu
      injection hh with hh
      subst hh
      rw [add_none]
      exact hc
    rcases A with _ | a
    · obtain ⟨rfl, rfl⟩ := h.nil rfl
      have hx : xs = [] := List.eq_nil_of_length_eq_zero (by simpa using h.len)
      subst hx
      obtain ⟨v', w', hrun, h2, h3, _, h5⟩ := run_append_own_at (P := P) w base t ty e i z size bytes ht hi hz hsize hby hzs hsz (.slice none 0 0) 0 [] (World.ownsRow_nil _ _ _ _) ad m d news hr.1 hnews h1 h63 hbytes hbase
      obtain ⟨A', c', rfl, _, _, hb⟩ := own_form h2
      refine ⟨A', c', w', hrun, Row.of_own h2, h3, ?_⟩
      intro g hg
      rcases A' with _ | a'
      · cases hg
      · injection hg with hg
        rcases h5 with h5 | h5
        · simp [Value.ownBlock] at h5
        · simp [Value.ownBlock] at h5
          exact .inr (by omega)
    · obtain ⟨g, off, cur, e1, hb, hk, hs, hc⟩ := h.at_ a rfl
      subst e1
      by_cases hroom : n + m ≤ c
      · subst hsize
        have hnl : news.length = m * i.size := hr.1
        have hfit : n * i.size + m * i.size ≤ c * i.size := by rw [← Nat.add_mul]; exact Nat.mul_le_mul_right _ hroom
        have hin : ∀ j, j < news.length → (w.cell? ⟨g, off + n * i.size + j, none⟩).isSome = true := by
          intro j hj
          rw [hk.cell, Array.getElem?_eq_getElem (by omega)]
          rfl
        have hrun := run_append_room_cells (P := P) w t ty e i ht hi g off n c ad m d news hnl hnews h1 hroom hin (fun j _ => hk.frozen _)
        refine ⟨_, _, _, hrun, ?_, grown_setCells g news _ w, fun g hg => .inl hg⟩
        obtain ⟨cs', hk', hs'⟩ := blk_setCells news (off + n * i.size) hk
        refine ⟨by rw [List.length_append, h.len, hnl, Nat.add_mul], hroom, h.cap, fun hh => (by cases hh), fun a ha => ?_⟩
        injection ha with ha
        subst ha
        refine ⟨g, off, cs', rfl, hb, hk', by omega, fun j u hu => ?_⟩
        rw [← hk'.cell]
        by_cases hj : j < xs.length
        · rw [List.getElem?_append_left hj] at hu
          rw [World.cell?_setCells_out g news _ w ⟨g, off + j, none⟩ (fun _ _ => .inl (by have := h.len; simp only; omega)), hk.cell]
          exact hc j u hu
        · rw [List.getElem?_append_right (by omega)] at hu
          have hjl := (List.getElem?_eq_some_iff.1 hu)
          obtain ⟨hjl, hju⟩ := hjl
          have hx := World.cell?_setCells_in g news (off + n * i.size) w hin (j - xs.length) hjl
          have hl := h.len
          rw [show off + n * i.size + (j - xs.length) = off + j by omega] at hx
          rw [hx, hju]
      · obtain ⟨v', w', hrun, h2, h3⟩ := run_append_arg_grows (P := P) w t ty e i z size bytes ht hi hz hsize hby hzs hsz ⟨g, off, none⟩ n c xs h.len (fun j u hu => by rw [add_none]; exact h.cell hu) ad m d news hr.1 hnews (by omega) h63 hbytes
        obtain ⟨A', c', rfl, _, _, hb2, hnil, _⟩ := own_form h2
        refine ⟨A', c', w', hrun, (Row.of_own h2).rebase (fun g hg => Nat.le_trans hbase (hb2 g hg).1), ⟨h3.os, h3.tape, h3.output, h3.size, fun k hk _ => h3.block k hk (by simp)⟩, ?_⟩
        exact fun g' hg' => .inr (hb2 g' hg').1
theorem wp_append_row {o : Oper} {a : Act} {K : Act → World → Prop} {Q : Exit → Act → World → Prop} (s x : Operand) (t : TypeId)
    (ho : o.op = .call { callee := .builtin .append, args := #[s, x], argTypes := #[t, t] })
    (base : Nat) (e : TypeId) (i : TypeInfo) (z : Value) (size bytes : Nat) (ht : P.underlying t = some (.slice e)) (hi : P.info? e = some i) (hz : i.zero = some z)
    (hsize : i.size = size) (hby : i.bytes = bytes) (hzs : z.cells.size = size) (hsz : 0 < size)
    {A : Option Addr} {n c : Nat} {xs : List Value} (hs : a.eval s = .slice A n c) (hrow : Row w base e size A n c xs)
    {Z : Nat → Prop} {B : Option Addr} {m d : Nat} {news : List Value} (hx : a.eval x = .slice B m d) (hr : Rd w Z size B m news) (h1 : ∀ u ∈ news, u.oneCell' = true)
    (h63 : n + m ≤ maxLen) (hbytes : (n + m) * bytes ≤ 140737488355328) (hbase : base ≤ w.heap.size)
    (h : ∀ (A' : Option Addr) (c' : Nat) (w' : World), Row w' base e size A' (n + m) c' (xs ++ news) → w.grownBy w' (ablk A) → (∀ g, ablk A' = some g → ablk A = some g ∨ w.heap.size ≤ g) → K (a.put o.dst (.slice A' (n + m) c')) w') : o.wp P a w K Q := by
  obtain ⟨A', c', w', hrun, h2, h3, h4⟩ := run_append_row (P := P) w base t o.type e i z size bytes ht hi hz hsize hby hzs hsz hrow hr h1 h63 hbytes hbase (d := d)
  unfold Oper.wp execOp
  simp only [ho, resolve, invoke, builtin, Sem.run_bind, Sem.run_pure, Result.andThen_ok, List.map_toArray, List.map_cons, List.map_nil, hs, hx, hrun]
  exact h A' c' w' h2 h3 h4

theorem wpList_append_row {ops : Array Oper} {rest : List Oper} {o : Oper} {a : Act} {Q : Exit → Act → World → Prop} (hgd : o.guard = none) (s x : Operand) (t : TypeId)
    (ho : o.op = .call { callee := .builtin .append, args := #[s, x], argTypes := #[t, t] })
    (base : Nat) (e : TypeId) (i : TypeInfo) (z : Value) (size bytes : Nat) (ht : P.underlying t = some (.slice e)) (hi : P.info? e = some i) (hz : i.zero = some z)
    (hsize : i.size = size) (hby : i.bytes = bytes) (hzs : z.cells.size = size) (hsz : 0 < size)
    {A : Option Addr} {n c : Nat} {xs : List Value} (hs : a.eval s = .slice A n c) (hrow : Row w base e size A n c xs)
    {Z : Nat → Prop} {B : Option Addr} {m d : Nat} {news : List Value} (hx : a.eval x = .slice B m d) (hr : Rd w Z size B m news) (h1 : ∀ u ∈ news, u.oneCell' = true)
    (h63 : n + m ≤ maxLen) (hbytes : (n + m) * bytes ≤ 140737488355328) (hbase : base ≤ w.heap.size)
    (h : ∀ (A' : Option Addr) (c' : Nat) (w' : World), Row w' base e size A' (n + m) c' (xs ++ news) → w.grownBy w' (ablk A) → (∀ g, ablk A' = some g → ablk A = some g ∨ w.heap.size ≤ g) → wpList P ops Q rest (a.put o.dst (.slice A' (n + m) c')) w') : wpList P ops Q (o :: rest) a w :=
  wpList_plain hgd fun _ hK => wp_append_row w s x t ho base e i z size bytes ht hi hz hsize hby hzs hsz hs hrow hx hr h1 h63 hbytes hbase fun A' c' w' h2 h3 h4 => hK _ _ (h A' c' w' h2 h3 h4)

theorem step_append_row {ops : Array Oper} {o : Oper} {a : Act} {K : Act → World → Prop} {Q : Exit → Act → World → Prop} {E : Prop} (hgd : o.guard = none) (s x : Operand) (t : TypeId)
    (ho : o.op = .call { callee := .builtin .append, args := #[s, x], argTypes := #[t, t] })
    (base : Nat) (e : TypeId) (i : TypeInfo) (z : Value) (size bytes : Nat) (ht : P.underlying t = some (.slice e)) (hi : P.info? e = some i) (hz : i.zero = some z)
    (hsize : i.size = size) (hby : i.bytes = bytes) (hzs : z.cells.size = size) (hsz : 0 < size)
    {A : Option Addr} {n c : Nat} {xs : List Value} (hs : a.eval s = .slice A n c) (hrow : Row w base e size A n c xs)
    {Z : Nat → Prop} {B : Option Addr} {m d : Nat} {news : List Value} (hx : a.eval x = .slice B m d) (hr : Rd w Z size B m news) (h1 : ∀ u ∈ news, u.oneCell' = true)
    (h63 : n + m ≤ maxLen) (hbytes : (n + m) * bytes ≤ 140737488355328) (hbase : base ≤ w.heap.size)
    (h : ∀ (A' : Option Addr) (c' : Nat) (w' : World), Row w' base e size A' (n + m) c' (xs ++ news) → w.grownBy w' (ablk A) → (∀ g, ablk A' = some g → ablk A = some g ∨ w.heap.size ≤ g) → K (a.put o.dst (.slice A' (n + m) c')) w') :
    if Region.wanted o (yielded ops a.tmps) = true then Oper.wp P o a w K Q else E := by
  have hw : Region.wanted o (yielded ops a.tmps) = true := by simp [Region.wanted, hgd]
  rw [if_pos hw]
  exact wp_append_row w s x t ho base e i z size bytes ht hi hz hsize hby hzs hsz hs hrow hx hr h1 h63 hbytes hbase h
end
end Go.Proofs.Yticfjnjeoikalaa

/- Flat lists of cells. -/
namespace Go.Proofs.Yticfjnjeoikalaa
open Go.RowKit

theorem flat_get {α : Type} {f : α → List Value} {k : Nat} (hk : ∀ x, (f x).length = k) : ∀ (l : List α) (i j : Nat) (hi : i < l.length), j < k → (l.flatMap f)[i * k + j]? = (f l[i])[j]?
  | x :: l, 0, j, _, hj => by
    rw [List.flatMap_cons, List.getElem?_append_left (by rw [hk]; omega)]
    simp
  | x :: l, i + 1, j, hi, hj => by
    have e : (i + 1) * k + j - (f x).length = i * k + j := by rw [hk, Nat.add_mul]; omega
    rw [List.flatMap_cons, List.getElem?_append_right (by rw [hk, Nat.add_mul]; omega), e, flat_get hk l i j (by simpa using hi) hj]
    simp
theorem flat_len {α : Type} {f : α → List Value} {k : Nat} (hk : ∀ x, (f x).length = k) : ∀ (l : List α), (l.flatMap f).length = l.length * k
  | [] => by simp
  | x :: l => by rw [List.flatMap_cons, List.length_append, hk, flat_len hk l, List.length_cons, Nat.add_mul]; omega

end Go.Proofs.Yticfjnjeoikalaa

/-
  DERIVED: THE SHELF's CONTRACTS AT THIS DUMP, IN PLAIN WORDS (tools/lay-plain.mjs out of 'TryShelf.lean', which tools/lay-shelf.mjs wrote): THE SAME DECLARATIONS UNDER THE SAME NAMES: 'import', 'namespace', 'open', 'def', 'theorem' AND NOTHING ELSE: no command of the shelf's: FOR A HAND-IN. Each laying: the table of numbers ('.._ren') and one theorem, a field a fact of the dump's own or the kernel's comparison; each contract: ONE APPLICATION.
-/
namespace Go.Proofs
open Go.Shelf
def Try.laysSlK4_ren : Go.Shelf.Ren := ⟨fun | 4 => 26 | n => n, fun | 22 => 31 | 4 => 4 | 5 => 5 | n => n, fun | n => n⟩
theorem Try.laysSlK4 : Go.Proofs.SlLaysK.n4 Try.prog Try.laysSlK4_ren := {
  mixed := by kernel_rfl
  f4 := Try.func26.trans (congrArg some (by kernel_rfl))
  t4 := Try.underlying4
  a4 := Try.isAgg4
  z4 := Try.sizeOf4
  v4 := Try.zeroValue4
  t22 := Try.underlying31
  a22 := Try.isAgg31
  z22 := Try.sizeOf31
  v22 := Try.zeroValue31
  t5 := Try.underlying5
  i5 := by kernel_rfl }
open Go.RowKit Go.Lib in
/-- bytes.Clone: "Clone returns a copy of b[:len(b)]. The result may have additional unused capacity.": OF A SLICE THAT IS NOT nil IT RETURNS A SLICE THAT IS NOT nil, OF THE SAME BYTES, IN MEMORY OF THE CALL's OWN: in the how-to's words (6f): 'w'.ownsRow B e 1 v' n cells' · 'Below B w w'', B the heap's size at the call. b AT WHATEVER ADDRESS, its cells as 'open_ints' hands them ('a.add i'; the numbers 'xs'). No byte: no cell is asked for. (LAID: no walk: one application.) -/
theorem Try.bytes_Clone_at (a : Addr) (n c : Nat) (xs : List Int) (w : World) (hx : xs.length = n) (hbig : n ≤ 140737488355328) (hc : ∀ i, i < n → w.cell? (a.add i) = some (.int .u8 (xs.getD i 0))) :
    Calls Try.prog 26 #[.slice (some a) n c] w fun e w' => ∃ v', e = .returned v' ∧ w'.ownsRow w.heap.size 5 1 v' n (xs.map (Value.int .u8)) ∧ v' ≠ .slice none 0 0 ∧ Below w.heap.size w w' := Any.bytes_Clone_at Try.laysSlK4 a n c xs w hx hbig hc
open Go.RowKit Go.Lib in
/-- "Clone(nil) returns nil.": the world is as it was. (LAID: no walk: one application.) -/
theorem Try.bytes_Clone_nil (n c : Nat) (w : World) :
    Calls Try.prog 26 #[.slice none n c] w fun e w' => e = .returned (.slice none 0 0) ∧ w' = w := Any.bytes_Clone_nil Try.laysSlK4 n c w
end Go.Proofs

/- pipe.Pipe in memory; New, Closed, Count, Len. -/
namespace Go.Proofs.Yticfjnjeoikalaa
open Go.RowKit

/-- a parcel -/
structure PV where
  x : BV
  b : Bool
  d : Bool
def PV.cells (p : PV) : List Value := [.slice p.x.A p.x.l.length p.x.c, .bool p.b, .bool p.d]
def PV.s (p : PV) : List UInt8 × Bool × Bool := (p.x.l, p.b, p.d)
theorem par_info : (Try.prog.info? 56).map (fun i => (i.zero, i.size, i.bytes)) = some (some (.agg #[.slice none 0 0, .bool false, .bool false]), 3, 32) := by kernel_rfl
theorem par_one (l : List PV) : ∀ u ∈ l.flatMap PV.cells, u.oneCell' = true := by
  intro u hu
  obtain ⟨p, _, hp⟩ := List.mem_flatMap.1 hu
  simp only [PV.cells, List.mem_cons, List.not_mem_nil, or_false] at hp
  rcases hp with rfl | rfl | rfl <;> rfl

/-- parcels in a row of their own -/
def Pars (w : World) (base : Nat) (A : Option Addr) (c : Nat) (ls : List PV) : Prop := Row w base 56 3 A ls.length c (ls.flatMap PV.cells)
/-- all bytes of parcels -/
def flatP (S : List (List UInt8 × Bool × Bool)) : List UInt8 := S.flatMap fun p => p.1
/-- the pipe at block pb -/
structure PipeAt (w : World) (base pb : Nat) (X : Nat → Prop) (A : Option Addr) (c : Nat) (ls : List PV) (cl : Bool) : Prop where
  blk : Blk w pb 43 #[.slice A ls.length c, .bool cl]
  row : Pars w base A c ls
  ok : ∀ p ∈ ls, p.x.ok w (fun b => b ≠ pb ∧ ablk A ≠ some b ∧ ¬ X b)
  full : ∀ p ∈ ls, 0 < p.x.l.length
/-- what a method leaves -/
structure PipeTo (w : World) (base pb : Nat) (X : Nat → Prop) (A : Option Addr) (S : List (List UInt8 × Bool × Bool)) (cl : Bool) (w' : World) : Prop where
  at_ : ∃ A' c' ls', PipeAt w' base pb X A' c' ls' cl ∧ Hid (ls'.map PV.s = S) ∧ ∀ g, ablk A' = some g → ablk A = some g ∨ w.heap.size ≤ g
  fr : Fr (fun k => k = pb ∨ ablk A = some k) w w'

namespace PipeAt
variable {w w' : World} {base pb c : Nat} {X : Nat → Prop} {A : Option Addr} {ls : List PV} {cl : Bool}
theorem ne (h : PipeAt w base pb X A c ls cl) : ablk A ≠ some pb := h.row.ne_blk h.blk (by decide)
theorem fr {S : Nat → Prop} (h : PipeAt w base pb X A c ls cl) (k : Fr S w w') (h1 : ¬ S pb) (h2 : ∀ g, ablk A = some g → ¬ S g) (h3 : ∀ b, b < w.heap.size → b ≠ pb → ablk A ≠ some b → ¬ X b → ¬ S b) : PipeAt w' base pb X A c ls cl :=
  ⟨h.blk.fr k h1, h.row.fr k h2, fun p hp => (h.ok p hp).fr k (fun b hb hz => h3 b hb hz.1 hz.2.1 hz.2.2), h.full⟩
theorem below (h : PipeAt w base pb X A c ls cl) (k : Below w.heap.size w w') : PipeAt w' base pb X A c ls cl := h.fr (Fr.of_below k (fun _ => False)) (fun h => h) (fun _ _ h => h) (fun _ _ _ _ _ h => h)
theorem c0 (h : PipeAt w base pb X A c ls cl) : w.cell? ⟨pb, 0, none⟩ = some (.slice A ls.length c) := h.blk.cell 0
theorem c1 (h : PipeAt w base pb X A c ls cl) : w.cell? ⟨pb, 1, none⟩ = some (.bool cl) := h.blk.cell 1
theorem f0 (h : PipeAt w base pb X A c ls cl) : w.frozen? ⟨pb, 0, none⟩ = false := h.blk.frozen 0
theorem f1 (h : PipeAt w base pb X A c ls cl) : w.frozen? ⟨pb, 1, none⟩ = false := h.blk.frozen 1
theorem to (h : PipeAt w base pb X A c ls cl) : PipeTo w base pb X A (ls.map PV.s) cl w := ⟨⟨A, c, ls, h, rfl, fun _ hg => .inl hg⟩, Fr.refl _ _⟩
theorem new (w : World) {base : Nat} {X : Nat → Prop} : PipeAt (w.alloc (.cells #[.slice none 0 0, .bool false] 43)) base w.heap.size X none 0 [] false :=
  ⟨Blk.new _ _ _, Row.none_ _ _ _ _, by simp, by simp⟩
/-- the cells of one parcel -/
theorem par (h : PipeAt w base pb X A c ls cl) {i : Nat} (hi : i < ls.length) : ∃ g off, A = some ⟨g, off, none⟩ ∧ base ≤ g ∧ g < w.heap.size ∧ g ≠ pb ∧ w.cell? ⟨g, off + i * 3, none⟩ = some (.slice ls[i].x.A ls[i].x.l.length ls[i].x.c) ∧
    w.cell? ⟨g, off + i * 3 + 1, none⟩ = some (.bool ls[i].b) ∧ w.cell? ⟨g, off + i * 3 + 2, none⟩ = some (.bool ls[i].d) := by
  obtain ⟨g, off, rfl, hb, hlt⟩ := h.row.addr (by omega)
  have hg : ∀ j, j < 3 → (ls.flatMap PV.cells)[i * 3 + j]? = (PV.cells ls[i])[j]? := fun j hj => flat_get (k := 3) (fun _ => rfl) ls i j hi hj
  refine ⟨g, off, rfl, hb, hlt, ?_, h.row.cell (hg 0 (by omega)), ?_, ?_⟩
  · rintro rfl; exact h.ne rfl
  · rw [Nat.add_assoc]; exact h.row.cell (hg 1 (by omega))
  · rw [Nat.add_assoc]; exact h.row.cell (hg 2 (by omega))
end PipeAt
theorem PipeTo.trans {a b d : World} {base pb : Nat} {X : Nat → Prop} {A A' : Option Addr} {S : List (List UInt8 × Bool × Bool)} {cl : Bool} (hA : ∀ g, ablk A' = some g → ablk A = some g ∨ a.heap.size ≤ g) (k1 : Fr (fun k => k = pb ∨ ablk A = some k) a b) (k : PipeTo b base pb X A' S cl d) : PipeTo a base pb X A S cl d := by
  obtain ⟨A2, c2, ls2, h1, h2, h3⟩ := k.at_
  refine ⟨⟨A2, c2, ls2, h1, h2, fun g hg => ?_⟩, k1.trans k.fr ?_⟩
  · rcases h3 g hg with h | h
    · exact hA g h
    · have := k1.size; exact .inr (by omega)
  · intro x hx hS
    rcases hS with rfl | hS
    · exact .inl rfl
    · rcases hA x hS with h | h
      · exact .inr h
      · omega
theorem PipeTo.below {a b d : World} {base pb : Nat} {X : Nat → Prop} {A : Option Addr} {S : List (List UInt8 × Bool × Bool)} {cl : Bool} (h : PipeTo a base pb X A S cl b) (k : Below b.heap.size b d) : PipeTo a base pb X A S cl d := by
  obtain ⟨A2, c2, ls2, h1, h2, h3⟩ := h.at_
  exact ⟨⟨A2, c2, ls2, h1.below k, h2, h3⟩, h.fr.then_below k⟩

/-- the step of all: a row made anew of the old one, stored back -/
theorem PipeTo.stored {w w1 w2 : World} {base pb : Nat} {X : Nat → Prop} {A A2 : Option Addr} {c c2 : Nat} {ls ls2 : List PV} {cl : Bool} (h : PipeAt w base pb X A c ls cl) (k : Below w.heap.size w w1)
    (hrow : Pars w2 base A2 c2 ls2) (hg : w1.grownBy w2 (ablk A)) (hat : ∀ g, ablk A2 = some g → ablk A = some g ∨ w1.heap.size ≤ g)
    (hok : ∀ p ∈ ls2, p.x.ok w1 (fun b => b ≠ pb ∧ ablk A ≠ some b ∧ ¬ X b)) (hfull : ∀ p ∈ ls2, 0 < p.x.l.length) :
    PipeTo w base pb X A (ls2.map PV.s) cl (w2.setCell ⟨pb, 0, none⟩ (.slice A2 ls2.length c2)) := by
  have hpb := h.blk.lt
  have hb1 : Blk w1 pb 43 #[.slice A ls.length c, .bool cl] := h.blk.below k
  have hb2 := hb1.grown hg h.ne
  have hne2 : ablk A2 ≠ some pb := hrow.ne_blk hb2 (by decide)
  have f2 : Fr (fun x => ablk A = some x) w1 w2 := Fr.of_grown hg (fun _ _ e => e)
  have f3 : Fr (fun x => x = pb) w2 (w2.setCell ⟨pb, 0, none⟩ (.slice A2 ls2.length c2)) := (Fr.refl (fun x => x = pb) w2).setAt pb 0 rfl _
  have hs1 := k.size
  refine ⟨⟨A2, c2, ls2, ⟨?_, ?_, ?_, hfull⟩, rfl, ?_⟩, ?_⟩
  · have := hb2.set_ 0 (.slice A2 ls2.length c2)
    simpa using this
  · exact hrow.fr f3 (fun g hg e => hne2 (by rw [hg, e]))
  · intro p hp
    have h1 := (hok p hp).mono (Z' := fun b => (b ≠ pb ∧ ablk A ≠ some b ∧ ¬ X b) ∧ b < w1.heap.size) (fun b hb hz => ⟨hz, hb⟩)
    have h2 := (h1.fr f2 (fun b _ hz => hz.1.2.1)).fr f3 (fun b _ hz => hz.1.1)
    refine h2.mono (fun b _ hz => ⟨hz.1.1, fun e => ?_, hz.1.2.2⟩)
    rcases hat b e with h3 | h3
    · exact hz.1.2.1 h3
    · have := hz.2; omega
  · intro g hg
    rcases hat g hg with h3 | h3
    · exact .inl h3
    · exact .inr (by omega)
  · refine (((Fr.of_below k _).trans f2 (fun x _ e => .inr e)).trans f3 (fun x _ e => .inl e)).mono (fun _ _ h => h)

theorem pipeNew_any (w : World) : Calls Try.prog 6 #[] w fun e w' => e = .returned (.pointer (some ⟨w.heap.size, 0, none⟩)) ∧ w.alloc (.cells #[.slice none 0 0, .bool false] 43) = w' := by
  go_enter Try.func6, Try.ntmps6
  go_wp2_with fail
  go_ret
  exact ⟨rfl, rfl⟩
theorem pipeClosed_any (base pb : Nat) (X : Nat → Prop) (A : Option Addr) (c : Nat) (ls : List PV) (cl : Bool) (w : World) (h : PipeAt w base pb X A c ls cl) :
    Calls Try.prog 13 #[.pointer (some ⟨pb, 0, none⟩)] w fun e w' => e = .returned (.bool cl) ∧ w = w' := by
  have c1 := h.c1
  go_enter Try.func13, Try.ntmps13
  go_wp2_with fail
  go_ret
  exact ⟨rfl, rfl⟩
theorem pipeCount_any (base pb : Nat) (X : Nat → Prop) (A : Option Addr) (c : Nat) (ls : List PV) (cl : Bool) (w : World) (h : PipeAt w base pb X A c ls cl) :
    Calls Try.prog 12 #[.pointer (some ⟨pb, 0, none⟩)] w fun e w' => e = .returned (.int .i64 (ls.length : Int)) ∧ w = w' := by
  have c0 := h.c0
  go_enter Try.func12, Try.ntmps12
  go_wp2_with fail
  go_ret
  exact ⟨rfl, rfl⟩
theorem flatP_take (S : List (List UInt8 × Bool × Bool)) (i : Nat) (hi : i < S.length) : (flatP (S.take (i + 1))).length = (flatP (S.take i)).length + S[i].1.length := by
  unfold flatP
  rw [List.take_succ_eq_append_getElem hi, List.flatMap_append, List.length_append]
  simp
theorem flatP_mono (S : List (List UInt8 × Bool × Bool)) (i : Nat) : (flatP (S.take i)).length ≤ (flatP S).length := by
  have : flatP S = flatP (S.take i) ++ flatP (S.drop i) := by unfold flatP; rw [← List.flatMap_append, List.take_append_drop]
  rw [this, List.length_append]; omega

set_option maxHeartbeats 400000 in
theorem pipeLen_any (base pb : Nat) (X : Nat → Prop) (A : Option Addr) (c : Nat) (ls : List PV) (cl : Bool) (w : World) (h : PipeAt w base pb X A c ls cl) (hn : ls.length ≤ 4398046511104) (hb : (flatP (ls.map PV.s)).length ≤ 140737488355328) :
    Calls Try.prog 25 #[.pointer (some ⟨pb, 0, none⟩)] w fun e w' => e = .returned (.int .i64 ((flatP (ls.map PV.s)).length : Int)) ∧ Below w.heap.size w w' := by
  have c0 := h.c0
  go_enter Try.func25, Try.ntmps25
  go_wp2_with fail
  go_loopw [2, 12] (fun sv iv wr => ∃ (i s : Nat), i ≤ ls.length ∧ iv = .int .i64 (i : Int) ∧ sv = .int .i64 (s : Int) ∧ Hid (s = (flatP ((ls.map PV.s).take i)).length) ∧ Below w.heap.size w wr) (fun _ iv _ => ls.length - (intOf iv).toNat)
  case atStart => exact ⟨0, 0, Nat.zero_le _, rfl, rfl, by show _ = _; simp [flatP], Below.refl _ _⟩
  case round =>
    obtain ⟨i, s, hi, rfl, rfl, hs, hbl⟩ := hrel
    by_cases hlt : i < ls.length
    · obtain ⟨g, off, rfl, _, _, _, q0, q1, q2⟩ := (h.below hbl).par hlt
      have hst := flatP_take (ls.map PV.s) i (by simpa using hlt)
      have hm := flatP_mono (ls.map PV.s) (i + 1)
      rw [hst, List.getElem_map] at hm
      rw [List.getElem_map] at hst
      have hsz := hbl.size
      have hsm : s + ls[i].x.l.length ≤ 140737488355328 := by rw [hs.out]; exact Nat.le_trans hm hb
      have Hst : Hid (s + ls[i].x.l.length = (flatP ((ls.map PV.s).take (i + 1))).length) := by show _ = _; rw [hst, hs.out]; rfl
      clear hst hm hs
      generalize ls[i] = p at *
      obtain ⟨⟨pA, pc, pl⟩, pb', pd⟩ := p
      dsimp only at *
      go_wp2_with fail
      go_roundw
      case rel => exact ⟨i + 1, s + pl.length, hlt, by go_num, by go_num, Hst, hbl.alloc hsz _⟩
      case measure => simp [intOf]; omega
    · have e : i = ls.length := by omega
      subst e
      have hse : s = (flatP (ls.map PV.s)).length := by rw [hs.out, List.take_of_length_le (by simp)]
      have Hse := Lib.hid hse
      clear hse hs
      go_wp2_with fail
      go_ret
      exact ⟨by rw [← Hse.out]; rfl, hbl⟩
end Go.Proofs.Yticfjnjeoikalaa

/- slices.Grow of nil, slices.Concat of two rows, at parcels. -/
namespace Go.Proofs.Yticfjnjeoikalaa
open Go.RowKit

theorem Row.zero {w : World} {base size n c : Nat} {e : TypeId} {A : Option Addr} {xs : List Value} (h : Row w base e size A n c xs) : Row w base e size A 0 c [] :=
  ⟨by simp, Nat.zero_le _, h.cap, fun hA => ⟨rfl, (h.nil hA).2⟩, fun a ha => by
    obtain ⟨g, off, cur, e1, hb, hk, hs, _⟩ := h.at_ a ha
    exact ⟨g, off, cur, e1, hb, hk, hs, by simp⟩⟩

set_option maxHeartbeats 400000 in
theorem growNil_any (n : Nat) (w : World) (hn : n ≤ 1099511627776) :
    Calls Try.prog 34 #[.slice none 0 0, .int .i64 n] w fun e w' => ∃ A c, e = .returned (.slice A 0 c) ∧ Row w' w.heap.size 56 3 A 0 c [] ∧ Below w.heap.size w w' := by
  by_cases h0 : n = 0
  · subst h0
    go_enter Try.func34, Try.ntmps34
    go_wp2_with fail
    go_ret
    exact ⟨none, 0, rfl, Row.none_ _ _ _ _, Below.refl _ _⟩
  · have h1 : 0 < (n : Int) := by omega
    have hby : Try.t56.bytes = 32 := by kernel_rfl
    have hA : (n : Int) * (Try.t56.bytes : Int) ≤ 281474976710656 := by rw [hby]; omega
    have hB : Builtin.nextslicecap n 0 * Try.t56.bytes ≤ 281474976710656 := growslice_fits (by omega) (by rw [hby]; omega)
    have hN : ¬ n * 3 = 0 := by omega
    have hge := grownCap_ge w n 0 56
    have hcm := grownCap_le_maxLen w n 0 56 (by simp only [maxLen]; omega)
    clear hby
    go_enter Try.func34, Try.ntmps34
    go_wp2_with fail
    unfold grownCap at hge hcm
    generalize (Question.appendCap n 0 56).cut (w.tape w.drawn (Question.appendCap n 0 56)) = k at *
    go_ret
    refine ⟨some ⟨w.heap.size, 0, none⟩, k, rfl, ⟨by simp, Nat.zero_le _, hcm, fun h => (by cases h), fun a ha => ?_⟩, ((Below.refl _ _).alloc (Nat.le_refl _) _).drew⟩
    injection ha with ha
    subst ha
    refine ⟨w.heap.size, 0, _, rfl, Nat.le_refl _, (Blk.new w _ _).drew, ?_, by simp⟩
    rw [Array.size_append, size_zeroCells, size_zeroCells]
    simp
    omega
set_option maxRecDepth 100000 in
set_option maxHeartbeats 1000000 in
/-- parcels' rows of two, one behind the other -/
theorem concat2_any (q : Nat) (A1 A2 : Option Addr) (n1 c1 n2 c2 : Nat) (xs1 xs2 : List Value) (Z : Nat → Prop) (w : World) (h1 : w.cell? ⟨q, 0, none⟩ = some (.slice A1 n1 c1)) (h2 : w.cell? ⟨q, 1, none⟩ = some (.slice A2 n2 c2)) (hq : q < w.heap.size)
    (hr1 : Rd w Z 3 A1 n1 xs1) (hr2 : Rd w Z 3 A2 n2 xs2) (ho1 : ∀ u ∈ xs1, u.oneCell' = true) (ho2 : ∀ u ∈ xs2, u.oneCell' = true) (hn : n1 + n2 ≤ 1099511627776) :
    Calls Try.prog 28 #[.slice (some ⟨q, 0, none⟩) 2 2] w fun e w' => ∃ A c, e = .returned (.slice A (n1 + n2) c) ∧ Row w' w.heap.size 56 3 A (n1 + n2) c (xs1 ++ xs2) ∧ Below w.heap.size w w' := by
  obtain ⟨i0, hi0, hz0, hz1, hz2⟩ := info_parts par_info
  go_enter Try.func28, Try.ntmps28
  go_wp2_with fail
  go_loopw [3, 11] (fun sv iv wr => w = wr ∧ ((sv = .int .i64 0 ∧ iv = .int .i64 0) ∨ (sv = .int .i64 n1 ∧ iv = .int .i64 1) ∨ (sv = .int .i64 ((n1 + n2 : Nat) : Int) ∧ iv = .int .i64 2))) (fun _ iv _ => 2 - (intOf iv).toNat)
  case atStart => exact ⟨rfl, .inl ⟨rfl, rfl⟩⟩
  case round =>
    obtain ⟨rfl, ⟨rfl, rfl⟩ | ⟨rfl, rfl⟩ | ⟨rfl, rfl⟩⟩ := hrel
    · go_wp2_with fail
      go_roundw
      case rel => exact ⟨trivial, .inr (.inl ⟨by go_num, rfl⟩)⟩
      case measure => simp [intOf]
    · go_wp2_with fail
      go_roundw
      case rel => exact ⟨trivial, .inr (.inr ⟨by go_num, rfl⟩)⟩
      case measure => simp [intOf]
    · go_wp2_with fail
      refine (growNil_any (n1 + n2) _ hn).mono ?_
      rintro e w1 ⟨A, c, rfl, hrow, hb1⟩
      have g1 := (World.cell?_of_block (w := w) (hb1.block q hq)).trans h1
      have g2 := (World.cell?_of_block (w := w) (hb1.block q hq)).trans h2
      go_wp2_with fail
      go_loopw [6, 27] (fun nv iv wr => ∃ (A : Option Addr) (n c : Nat) (xs : List Value), nv = .slice A n c ∧ Row wr w.heap.size 56 3 A n c xs ∧ Below w.heap.size w wr ∧ ((iv = .int .i64 0 ∧ n = 0 ∧ xs = []) ∨ (iv = .int .i64 1 ∧ n = n1 ∧ xs = xs1) ∨ (iv = .int .i64 2 ∧ n = n1 + n2 ∧ xs = xs1 ++ xs2))) (fun _ iv _ => 2 - (intOf iv).toNat)
      case atStart => exact ⟨A, 0, c, [], rfl, hrow, hb1, .inl ⟨rfl, rfl, rfl⟩⟩
      case round =>
      clear hrow g1 g2
      obtain ⟨A, n, c, xs, rfl, hrow, hb, ⟨rfl, rfl, rfl⟩ | ⟨rfl, rfl, rfl⟩ | ⟨rfl, rfl, rfl⟩⟩ := hrel
      · have hbw := hb.size
        have g1 := (World.cell?_of_block (w := w) (hb.block q hq)).trans h1
        have g2 := (World.cell?_of_block (w := w) (hb.block q hq)).trans h2
        go_wp2_with (at_builtin; refine wpList_append_row _ rfl (.tmp 31) (.tmp 32) 41 rfl w.heap.size 56 i0 _ 3 32 Try.underlying41 hi0 hz0 hz1 hz2 rfl (by omega) rfl hrow rfl (hr1.below hb) ho1 (by simp only [maxLen]; omega) (by omega) hbw ?_; intro A2 c2' w2 hrow2 hg2 hat2)
        have hb2 : Below w.heap.size w w2 := hb.trans ((Fr.of_grown hg2 (S := fun x => w.heap.size ≤ x) (fun k _ e => (hrow.lt k e).1)).below hbw (fun k hk e => by omega))
        go_roundw
        case rel => exact ⟨A2, n1, c2', xs1, rfl, by simpa using hrow2, hb2, .inr (.inl ⟨by go_num, rfl, rfl⟩)⟩
        case measure => simp [intOf]
      · have hbw := hb.size
        have g1 := (World.cell?_of_block (w := w) (hb.block q hq)).trans h1
        have g2 := (World.cell?_of_block (w := w) (hb.block q hq)).trans h2
        go_wp2_with (at_builtin; refine wpList_append_row _ rfl (.tmp 31) (.tmp 32) 41 rfl w.heap.size 56 i0 _ 3 32 Try.underlying41 hi0 hz0 hz1 hz2 rfl (by omega) rfl hrow rfl (hr2.below hb) ho2 (by simp only [maxLen]; omega) (by omega) hbw ?_; intro A2 c2' w2 hrow2 hg2 hat2)
        have hb2 : Below w.heap.size w w2 := hb.trans ((Fr.of_grown hg2 (S := fun x => w.heap.size ≤ x) (fun k _ e => (hrow.lt k e).1)).below hbw (fun k hk e => by omega))
        go_roundw
        case rel => exact ⟨A2, _, c2', _, rfl, hrow2, hb2, .inr (.inr ⟨by go_num, rfl, rfl⟩)⟩
        case measure => simp [intOf]
      · go_wp2_with fail
        go_ret
        exact ⟨A, c, rfl, hrow, hb⟩
end Go.Proofs.Yticfjnjeoikalaa
