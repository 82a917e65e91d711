/- Small plain facts on numbers and worlds, no program. -/
import Derived.Test.YtmdbfhfjaapeoaaRows
import Derived.WalkKit
import Derived.WalkSpells
import Derived.WalkLawsBesides
import Derived.ProofKit
import Derived.Lib.Hide
import Derived.Deep.QuietTactic
import Derived.BigQuiet
import Derived.Laws.BitsAllLaws
import Derived.SizedLaws
import Derived.Lib.SmallJoins
import Derived.Deep.Slices
import Derived.Deep.Fields
import Derived.Laws.OwnMore
import Derived.Maps.AppendAt
import Derived.Deep.AppendLies
import Derived.Deep.Draws
import Derived.RegionTactic
import Derived.OwnWalk
import Derived.Maps.RangeWalk
import Derived.Lib.SlKeysI
import Derived.Shelf.SlIterI.Nil
import Derived.Ground.GgzProg
import Derived.Shelf.SortM.Plain
import Derived.Shelf.SortM.SortNone
import Derived.Ground.SlgmProg
import Derived.Shelf.SlMaps.Clone
import Derived.Ground.SlmcProg
import Derived.Test.YtmdbfhfjaapeoaaProg

namespace Go.Proofs.Ytmdbfhfjaapeoaa
open Go.RowKit Go.WideShapes Go.ChangeShapes

theorem Try.own : ownKnob Try.prog.godebug = none := by kernel_rfl
theorem Try.laidOut : laidOutB Try.prog = true := by kernel_rfl

section
variable {H : Type} {enc : TypeId × Value → H} {P : Program}
/-- The row's last step, where all that was there before the call is as it was. -/
theorem post_below {f : Func} {s : ChangeSpec} {apart fresh handsOn again : Bool} {W W' : World} {args : Array Value} {v : Value} {ds gs : List (DataW H)} {before pa pv : List MemPlace}
    (hW : DataW.Whole enc P f.params.toList s.vars apart W args.toList ds gs before)
    (hres : ∀ (b : Nat) (sp : Nat → Bool) (hd : Bool), DataW.TrodAll enc P W' b sp hd f.resultTypes.toList (v.resultList f.resultTypes.size) (s.fn H (ds ++ gs)).results [])
    (hargs : ∀ sp : Nat → Bool, (∀ p ∈ before, sp p.block = true) → DataW.TrodAll enc P W' 0 sp true f.params.toList args.toList (s.fn H (ds ++ gs)).args pa)
    (hvars : ∀ sp : Nat → Bool, (∀ p ∈ before, sp p.block = true) → DataW.TrodVars enc P W' sp s.vars (s.fn H (ds ++ gs)).vars pv)
    (hps : before = pa ++ pv) (hb : Below W.heap.size W W')
    (hok : ∀ (j : Nat) (t : TypeId) (r : Value), f.resultTypes[j]? = some t → (v.resultList f.resultTypes.size)[j]? = some r → Value.okWide P W' .any 0 t r) :
    s.post enc P f apart fresh handsOn again W args v W' := by
  have hlt : ∀ p ∈ before, p.block < W.heap.size := fun p hp => hW.lt p hp
  have hold : ∀ p ∈ before, (fun b => decide (b < W.heap.size)) p.block = true := fun p hp => by simpa using hlt p hp
  refine ⟨ds, gs, before, [], pa, pv, hW, hres _ _ _, hargs _ hold, hvars _ hold, World.keptBut_mono (fun p hp => ⟨hp, ?_⟩) (hb.frame (· ∈ before)), fun _ => ?_⟩
  · rw [hps, List.mem_append] at hp
    exact Or.inr hp
  · obtain ⟨_, _, _, _, _, hz, hn⟩ := hW
    refine ⟨hok, _, _, ([] ++ pa) ++ pv, ⟨[] ++ pa, pv, trodAll_append (hargs _ (fun _ _ => rfl)) (hres _ _ _), hvars _ (fun _ _ => rfl), rfl, ?_, ?_⟩, ?_⟩
    · intro b off hp
      have hin : MemPlace.cell b off ∈ before := by rw [hps]; simpa using hp
      rw [hb.frozen (hlt _ hin)]
      exact hz b off hin
    · intro ha
      have := hn ha
      rw [hps] at this
      simpa using this
    · intro p hp _
      rw [hps]
      simpa using hp
end

theorem u64_bd {n : Int} (h : (Lit.int .u64 n).wf = true) : 0 ≤ n ∧ n < 18446744073709551616 := by
  simp [Lit.wf, IntKind.min, IntKind.max, IntKind.bits, IntKind.signed] at h
  omega
theorem i64_bd {n : Int} (h : (Lit.int .i64 n).wf = true) : -9223372036854775808 ≤ n ∧ n < 9223372036854775808 := by
  simp [Lit.wf, IntKind.min, IntKind.max, IntKind.bits, IntKind.signed] at h
  omega
theorem u8_bd {n : Int} (h : (Lit.int .u8 n).wf = true) : 0 ≤ n ∧ n < 256 := by
  simp [Lit.wf, IntKind.min, IntKind.max, IntKind.bits, IntKind.signed] at h
  omega
theorem u32_bd {n : Int} (h : (Lit.int .u32 n).wf = true) : 0 ≤ n ∧ n < 4294967296 := by
  simp [Lit.wf, IntKind.min, IntKind.max, IntKind.bits, IntKind.signed] at h
  omega
/-- all old cells and marks read as they did -/
theorem bcell {W w1 : World} (hb : Below W.heap.size W w1) : (∀ b o, b < W.heap.size → w1.cell? ⟨b, o, none⟩ = W.cell? ⟨b, o, none⟩) ∧ (∀ b o, b < W.heap.size → w1.frozen? ⟨b, o, none⟩ = W.frozen? ⟨b, o, none⟩) :=
  ⟨fun b o h => hb.cell (p := ⟨b, o, none⟩) h, fun b o h => hb.frozen (p := ⟨b, o, none⟩) h⟩
theorem bthen {a b c : World} (h : Below a.heap.size a b) (k : Below b.heap.size b c) : Below a.heap.size a c := h.trans (k.mono h.size)
/-- what a region keeps whose calls only make memory -/
theorem keep_drew {a : World} : Below a.heap.size a a.drew ∧ (∀ b o, b < a.heap.size → a.drew.cell? ⟨b, o, none⟩ = a.cell? ⟨b, o, none⟩) :=
  ⟨(Below.refl _ _).drew, fun _ _ _ => rfl⟩
theorem keep_then {a b c : World} (h : Below a.heap.size a b) (k : Below b.heap.size b c) : Below a.heap.size a c ∧ (∀ x o, x < a.heap.size → c.cell? ⟨x, o, none⟩ = a.cell? ⟨x, o, none⟩) :=
  ⟨bthen h k, (bcell (bthen h k)).1⟩
theorem cellAt {a b : World} (h : Below a.heap.size a b) {x o : Nat} {u : Value} (hx : x < a.heap.size) (hu : a.cell? ⟨x, o, none⟩ = some u) : b.cell? ⟨x, o, none⟩ = some u :=
  (h.cell (p := ⟨x, o, none⟩) hx).trans hu
theorem ret_b {x y : Bool} (h : x = y) : Ending.returned (.bool x) = .returned (.bool y) := by rw [h]
theorem ret_i {k : IntKind} {x y : Int} (h : x = y) : Ending.returned (.int k x) = .returned (.int k y) := by rw [h]
theorem ret2ib {k : IntKind} {a b : Int} {x y : Bool} (h1 : a = b) (h : x = y) : Ending.returned (.tuple #[.int k a, .bool x]) = .returned (.tuple #[.int k b, .bool y]) := by rw [h1, h]
theorem ret3b {a b : Value} {x y : Bool} (h : x = y) : Ending.returned (.tuple #[a, b, .bool x]) = .returned (.tuple #[a, b, .bool y]) := by rw [h]
theorem ret2b {a : Value} {x y : Bool} (h : x = y) : Ending.returned (.tuple #[a, .bool x]) = .returned (.tuple #[a, .bool y]) := by rw [h]
end Go.Proofs.Ytmdbfhfjaapeoaa

/- From a law's contract ('it returns true, and all that was there is as it was') to its row. -/
namespace Go.Proofs.Ytmdbfhfjaapeoaa
open Go.RowKit Go.WideShapes Go.ChangeShapes Go.ChangeAt

theorem trodAll_stays {H : Type} {enc : TypeId × Value → H} {W W' : World} {sp : Nat → Bool} (hb : Below W.heap.size W W') :
    ∀ (ts : List TypeId) (vs : List Value) (ds : List (DataW H)) (ps : List MemPlace), (∀ t ∈ ts, Try.prog.readableRec t = true ∧ t < Try.prog.types.size) →
      DataW.TrodAll enc Try.prog W 0 (fun _ => true) true ts vs ds ps → (∀ p ∈ ps, p.block < W.heap.size ∧ sp p.block = true) →
      DataW.TrodAll enc Try.prog W' 0 sp true ts vs ds ps
  | [], [], [], _, _, h, _ => h
  | t :: ts, v :: vs, d :: ds, ps, hr, h, hp => by
    obtain ⟨p, q, h1, h2, rfl⟩ := h
    refine ⟨p, q, ?_, trodAll_stays hb ts vs ds q (fun t ht => hr t (by simp [ht])) h2 (fun x hx => hp x (by simp [hx])), rfl⟩
    exact WideElems.Trod_stays Try.laidOut (hr t (by simp)).1 (hr t (by simp)).2 h1 (fun x hx => hb.same (hp x (by simp [hx])).1) (fun x hx => (hp x (by simp [hx])).2)
  | [], _ :: _, _, _, _, h, _ => h.elim
  | [], [], _ :: _, _, _, h, _ => h.elim
  | _ :: _, [], _, _, _, h, _ => h.elim
  | _ :: _, _ :: _, [], _, _, h, _ => h.elim

theorem trodAll_len {H : Type} {enc : TypeId × Value → H} {P : Program} {W : World} {base : Nat} {sp : Nat → Bool} {hd : Bool} :
    ∀ (ts : List TypeId) (vs : List Value) (ds : List (DataW H)) (ps : List MemPlace), DataW.TrodAll enc P W base sp hd ts vs ds ps → ds.length = ts.length
  | [], [], [], _, _ => rfl
  | t :: ts, v :: vs, d :: ds, ps, h => by
    obtain ⟨p, q, _, h2, _⟩ := h
    simpa using trodAll_len ts vs ds q h2
  | [], _ :: _, _, _, h => h.elim
  | [], [], _ :: _, _, h => h.elim
  | _ :: _, [], _, _, h => h.elim
  | _ :: _, _ :: _, [], _, h => h.elim

set_option maxRecDepth 100000 in
/-- every parameter's type can be read -/
theorem law_reads {ts : List TypeId} (h : (ts.all fun t => Try.prog.readableRec t && decide (t < Try.prog.types.size)) = true) : ∀ t ∈ ts, Try.prog.readableRec t = true ∧ t < Try.prog.types.size := by
  intro t ht
  have := List.all_eq_true.1 h t ht
  simpa using this

set_option maxRecDepth 100000 in
theorem law_lift {os : Os} (started : os.Started) {H : Type} {enc : TypeId × Value → H} {k : FuncId} {fn : Func} {s : ChangeSpec}
    (noInit : Try.checked.prog.inits.idxOf? k = none) (hfn : Try.prog.funcs[k]? = some fn)
    (hrt : fn.resultTypes = #[4]) (hvars : s.vars = [])
    (hread : ∀ t ∈ fn.params.toList, Try.prog.readableRec t = true ∧ t < Try.prog.types.size)
    (hs : ∀ ds : List (DataW H), ds.length = fn.params.toList.length → s.fn H ds = { results := [.lit (.bool true)], args := ds })
    (witness : ∃ (w : World) (tape : Tape) (i : Input), w.os = os ∧ (w.forCall tape i).Shaped Try.checked.prog ∧ i.vars = [] ∧ Input.okWide Try.checked.prog (w.forCall tape i) .any w.heap.size k i ∧
      s.pre6 enc Try.checked.prog fn [] false (w.forCall tape i).memory i.args ∧ ({} : Assume).holds Try.checked.prog (lone (Frame.enter Try.checked.prog k i.args .normal) [] (w.forCall tape i)))
    (contract : ∀ (W : World) (base : Nat) (args : Array Value) (ds : List (DataW H)) (ps : List MemPlace),
      (∀ (j : Nat) t v, fn.params[j]? = some t → args[j]? = some v → Value.okWide Try.prog W .any base t v) →
      DataW.TrodAll enc Try.prog W 0 (fun _ => true) true fn.params.toList args.toList ds ps →
      (∀ p ∈ ps, p.block < W.heap.size) →
      (DataW.weightsEach Try.prog fn.params.toList ds).all (· ≤ reachBytes) = true →
      Calls Try.prog k args W fun e W' => e = .returned (.bool true) ∧ Below W.heap.size W W') :
    ReturnsInHanded {} Try.checked os k .any (s.pre6 enc Try.checked.prog fn [] false) (s.post enc Try.checked.prog fn false true false false) := by
  refine returnsInHanded_of_change_sized (C := Try.checked) Try.own started noInit hfn witness ?_
  intro W base args ds gs before hval hW _ hsz _
  have hW' := hW
  obtain ⟨p, q, hA, hV, rfl, hfz, hnd⟩ := hW
  rw [hvars] at hV
  obtain ⟨rfl, rfl⟩ := trodVars_none hV
  have hlt : ∀ x ∈ p, x.block < W.heap.size := fun x hx => hW'.lt x (by simp [hx])
  have hlen : ds.length = fn.params.toList.length := trodAll_len _ _ _ _ hA
  have hsz' : (DataW.weightsEach Try.prog fn.params.toList ds).all (· ≤ reachBytes) = true := by
    have hv : s.plain.varTypes Try.checked.prog = [] := by simp only [ChangeSpec.plain, hvars]; rfl
    rw [hv, List.append_nil, List.append_nil] at hsz
    exact hsz
  refine (contract W base args ds p hval hA hlt hsz').mono fun e W' ⟨he, hb⟩ => ?_
  have e1 : s.fn H (ds ++ []) = { results := [.lit (.bool true)], args := ds } := by rw [List.append_nil]; exact hs ds hlen
  refine ⟨_, he, post_below (pa := p) (pv := []) hW' ?_ ?_ ?_ rfl hb ?_⟩
  · intro b sp hd
    rw [e1, hrt]
    exact trodAll_mk1 (shut_bool Try.underlying4 true)
  · intro sp hsp
    rw [e1]
    exact trodAll_stays hb _ _ _ _ hread hA (fun x hx => ⟨hlt x hx, hsp x (by simp [hx])⟩)
  · intro sp hsp
    rw [e1, hvars]
    rfl
  · exact ok_one hrt rfl (okWide_bool_mk Try.underlying4 true)
end Go.Proofs.Ytmdbfhfjaapeoaa

/- Arguments opened: structs by value of any number of one-cell fields. -/
namespace Go.Proofs.Ytmdbfhfjaapeoaa
open Go.RowKit Go.WideShapes Go.ChangeShapes Go.ChangeAt Go.Deep Go.Joins

section
variable {H : Type} {enc : TypeId × Value → H} {P : Program} {w : World} {base : Nat} {spare : Nat → Bool} {held : Bool}
/-- A struct by value: its cells, and each field's reading. -/
theorem open_aggN {r : Reach} {b0 : Nat} {t : TypeId} {fs : Array Field} {v : Value} {d : DataW H} {p : List MemPlace} (hs : P.underlying t = some (.struct fs)) (hone : oneCellFields P fs = true) (hC : P.cellsOf t = fs.size)
    (hv : Value.okWide P w r b0 t v) (h : DataW.Trod enc P w base spare held t v d p) :
    ∃ (cs : List Value) (ys : List (DataW H × List MemPlace)) (n : Nat), v = .agg cs.toArray ∧ cs.length = fs.size ∧ ys.length = fs.size ∧ d = .agg (ys.map (·.1)) ∧ p = ys.flatMap (·.2) ∧
      ∀ (j : Nat) (f : Field) (c : Value) (y : DataW H × List MemPlace), fs[j]? = some f → cs[j]? = some c → ys[j]? = some y → DataW.trod enc P w base spare held n f.type [c] = some y := by
  obtain ⟨cs, rfl, hsz⟩ := okWide_struct hs hv
  obtain ⟨l⟩ := cs
  obtain ⟨fuel, hf⟩ := h
  obtain ⟨xs, n, _, hx, hl, hlen, hg⟩ := DataW.trod_struct hs hf
  simp only [Prod.mk.injEq] at hx
  have hll : l.length = fs.size := by rw [← hC]; exact hsz
  refine ⟨l, xs, n, rfl, hll, hlen, hx.1, hx.2, fun j f c y hj hc hy => ?_⟩
  obtain ⟨ho, hk⟩ := hone_of hone j f hj
  have h1 := hg j f hj
  rw [ho, hk] at h1
  have hjl : j < l.length := by have := (Array.getElem?_eq_some_iff.1 hj).1; omega
  have e : ((Value.agg { toList := l }).cells.toList.drop j).take 1 = [c] := by
    show (l.drop j).take 1 = [c]
    rw [List.drop_eq_getElem_cons hjl, List.take_succ_cons, List.take_zero]
    rw [List.getElem?_eq_getElem hjl] at hc
    simpa using hc
  rw [e] at h1
  rw [h1, hy]

theorem list9 {α : Type} {l : List α} (h : l.length = 9) : ∃ a0 a1 a2 a3 a4 a5 a6 a7 a8, l = [a0, a1, a2, a3, a4, a5, a6, a7, a8] := by
  match l, h with
  | [a0, a1, a2, a3, a4, a5, a6, a7, a8], _ => exact ⟨_, _, _, _, _, _, _, _, _, rfl⟩
end
end Go.Proofs.Ytmdbfhfjaapeoaa

/- Words for memory: what may change between two worlds (Fr), what a slice reads as (Rd), a block known whole (Blk), append onto an owned row. No program. -/
namespace Go.Proofs.Ytmdbfhfjaapeoaa
open Go.RowKit

theorem add_none (b o j : Nat) : (⟨b, o, none⟩ : Addr).add j = ⟨b, o + j, none⟩ := by
  unfold Addr.add
  split
  · rename_i h; subst h; rfl
  · rfl

/-- Between w and w' only blocks of S, and new ones, have turned. -/
structure Fr (S : Nat → Prop) (w w' : World) : Prop where
  os : w'.os = w.os
  tape : w'.tape = w.tape
  output : w'.output = w.output
  size : w.heap.size ≤ w'.heap.size
  block : ∀ k, k < w.heap.size → ¬ S k → w'.heap[k]? = w.heap[k]?

/-- the block of a slice's address -/
def ablk : Option Addr → Option Nat | some a => some a.block | none => none

namespace Fr
variable {S S' : Nat → Prop} {a b c : World}
theorem refl (S : Nat → Prop) (w : World) : Fr S w w := ⟨rfl, rfl, rfl, Nat.le_refl _, fun _ _ _ => rfl⟩
theorem mono (h : Fr S a b) (hs : ∀ k, k < a.heap.size → S k → S' k) : Fr S' a b := ⟨h.os, h.tape, h.output, h.size, fun k hk hn => h.block k hk (fun hx => hn (hs k hk hx))⟩
theorem trans (h : Fr S a b) (k : Fr S' b c) (hs : ∀ x, x < a.heap.size → S' x → S x) : Fr S a c :=
  ⟨k.os.trans h.os, k.tape.trans h.tape, k.output.trans h.output, Nat.le_trans h.size k.size, fun x hx hn =>
    (k.block x (Nat.lt_of_lt_of_le hx h.size) (fun hy => hn (hs x hx hy))).trans (h.block x hx hn)⟩
theorem of_below (h : Below a.heap.size a b) (S : Nat → Prop) : Fr S a b := ⟨h.os, h.tape, h.output, h.size, fun k hk _ => h.block k hk⟩
theorem of_grown {row : Option Nat} (h : a.grownBy b row) (hr : ∀ k, k < a.heap.size → row = some k → S k) : Fr S a b :=
  ⟨h.os, h.tape, h.output, h.size, fun k hk hn => h.block k hk (fun e => hn (hr k hk e.symm))⟩
theorem below {B : Nat} (h : Fr S a b) (hB : B ≤ a.heap.size) (hs : ∀ k, k < B → ¬ S k) : Below B a b := ⟨h.os, h.tape, h.output, h.size, fun k hk => h.block k (by omega) (hs k hk)⟩
theorem then_below (h : Fr S a b) (k : Below b.heap.size b c) : Fr S a c := h.trans (of_below k S) (fun _ _ h => h)
theorem drew (h : Fr S a b) : Fr S a b.drew := ⟨h.os, h.tape, h.output, h.size, h.block⟩
theorem drewN (h : Fr S a b) (n : Nat) : Fr S a (b.drewN n) := ⟨h.os, h.tape, h.output, h.size, h.block⟩
theorem alloc (h : Fr S a b) (o : Obj) : Fr S a (b.alloc o) :=
  h.then_below ((Below.refl _ _).alloc (Nat.le_refl _) o)
theorem setCell (h : Fr S a b) {p : Addr} (hp : p.block < a.heap.size → S p.block) (u : Value) : Fr S a (b.setCell p u) :=
  ⟨h.os, h.tape, h.output, by simpa [World.setCell] using h.size, fun k hk hn => (Below.heap_setCell b p u k (by rintro rfl; exact hn (hp hk))).trans (h.block k hk hn)⟩
theorem setAt (h : Fr S a b) (x o : Nat) (hx : S x) (u : Value) : Fr S a (b.setCell ⟨x, o, none⟩ u) := h.setCell (p := ⟨x, o, none⟩) (fun _ => hx) u
theorem cell (h : Fr S a b) {p : Addr} (hp : p.block < a.heap.size) (hn : ¬ S p.block) : b.cell? p = a.cell? p := World.cell?_of_block (w := a) (h.block p.block hp hn)
theorem frozen (h : Fr S a b) {p : Addr} (hp : p.block < a.heap.size) (hn : ¬ S p.block) : b.frozen? p = a.frozen? p := World.frozen?_of_block (w := a) (h.block p.block hp hn)
end Fr

/-- The slice's address A reads, n elements of so many cells, as the cells xs; they lie in a block of Z. -/
def Rd (w : World) (Z : Nat → Prop) (size : Nat) (A : Option Addr) (n : Nat) (xs : List Value) : Prop :=
  xs.length = n * size ∧ (0 < n * size → ∃ b off, A = some ⟨b, off, none⟩ ∧ Z b ∧ b < w.heap.size ∧ ∀ j u, xs[j]? = some u → w.cell? ⟨b, off + j, none⟩ = some u)

namespace Rd
variable {w w' : World} {Z Z' S : Nat → Prop} {size n : Nat} {A : Option Addr} {xs : List Value}
theorem nil : Rd w Z size A 0 [] := ⟨by simp, fun h => by simp at h⟩
theorem fr (h : Rd w Z size A n xs) (k : Fr S w w') (hs : ∀ b, b < w.heap.size → Z b → ¬ S b) : Rd w' Z size A n xs :=
  ⟨h.1, fun hn => by
    obtain ⟨b, off, e, hz, hb, hc⟩ := h.2 hn
    exact ⟨b, off, e, hz, Nat.lt_of_lt_of_le hb k.size, fun j u hu => (k.cell (p := ⟨b, off + j, none⟩) hb (hs b hb hz)).trans (hc j u hu)⟩⟩
theorem below (h : Rd w Z size A n xs) (k : Below w.heap.size w w') : Rd w' Z size A n xs := h.fr (Fr.of_below k (fun _ => False)) (fun _ _ _ h => h)
theorem mono (h : Rd w Z size A n xs) (hz : ∀ b, b < w.heap.size → Z b → Z' b) : Rd w Z' size A n xs :=
  ⟨h.1, fun hn => by
    obtain ⟨b, off, e, hz', hb, hc⟩ := h.2 hn
    exact ⟨b, off, e, hz b hb hz', hb, hc⟩⟩
theorem drew (h : Rd w Z size A n xs) : Rd w.drew Z size A n xs := h
theorem drewN (h : Rd w Z size A n xs) (k : Nat) : Rd (w.drewN k) Z size A n xs := h
theorem alloc (h : Rd w Z size A n xs) (o : Obj) : Rd (w.alloc o) Z size A n xs := h.below ((Below.refl _ _).alloc (Nat.le_refl _) o)
/-- one element of one cell -/
theorem at1 {k : Nat} (h : Rd w Z 1 A n xs) (hk : k < n) : ∃ b off, A = some ⟨b, off, none⟩ ∧ Z b ∧ b < w.heap.size ∧ w.cell? ⟨b, off + k, none⟩ = some (xs.getD k undef) := by
  obtain ⟨b, off, e, hz, hb, hc⟩ := h.2 (by omega)
  have hl : k < xs.length := by have := h.1; omega
  refine ⟨b, off, e, hz, hb, hc k _ ?_⟩
  rw [List.getD_eq_getElem?_getD, List.getElem?_eq_getElem hl]
  rfl
/-- cell j of all -/
theorem atj {j : Nat} {u : Value} (h : Rd w Z size A n xs) (hu : xs[j]? = some u) : ∃ b off, A = some ⟨b, off, none⟩ ∧ Z b ∧ b < w.heap.size ∧ w.cell? ⟨b, off + j, none⟩ = some u := by
  have hj := (List.getElem?_eq_some_iff.1 hu).1
  have := h.1
  obtain ⟨b, off, e, hz, hb, hc⟩ := h.2 (by omega)
  exact ⟨b, off, e, hz, hb, hc j u hu⟩
/-- element k of a mapped list -/
theorem atm {α : Type} {f : α → Value} {l : List α} {k : Nat} (h : Rd w Z 1 A n (l.map f)) (hk : k < l.length) : ∃ b off, A = some ⟨b, off, none⟩ ∧ Z b ∧ b < w.heap.size ∧ w.cell? ⟨b, off + k, none⟩ = some (f l[k]) :=
  h.atj (by rw [List.getElem?_map, List.getElem?_eq_getElem hk]; rfl)
theorem some_of (h : Rd w Z size A n xs) (hn : 0 < n * size) : ∃ b off, A = some ⟨b, off, none⟩ ∧ Z b ∧ b < w.heap.size := by
  obtain ⟨b, off, e, hz, hb, _⟩ := h.2 hn
  exact ⟨b, off, e, hz, hb⟩
theorem take (h : Rd w Z size A n xs) {k : Nat} (hk : k ≤ n) : Rd w Z size A k (xs.take (k * size)) := by
  have hle : k * size ≤ n * size := Nat.mul_le_mul_right _ hk
  refine ⟨by rw [List.length_take, h.1]; omega, fun hn => ?_⟩
  obtain ⟨b, off, e, hz, hb, hc⟩ := h.2 (by omega)
  refine ⟨b, off, e, hz, hb, fun j u hu => hc j u ?_⟩
  rw [List.getElem?_take] at hu
  split at hu
  · exact hu
  · cases hu
/-- s[k:] -/
theorem drop (h : Rd w Z size A n xs) {k cap : Nat} (hk : k ≤ n) (hc : n ≤ cap) : Rd w Z size (if cap = k then A else A.map (·.add (k * size))) (n - k) (xs.drop (k * size)) := by
  refine ⟨by rw [List.length_drop, h.1, Nat.sub_mul], fun hn => ?_⟩
  have hkn : k < n := by
    rcases Nat.lt_or_ge k n with h1 | h1
    · exact h1
    · rw [show n - k = 0 by omega] at hn; simp at hn
  have hs : 0 < size := Nat.pos_of_mul_pos_left hn
  obtain ⟨b, off, rfl, hz, hb, hcell⟩ := h.2 (Nat.mul_pos (by omega) hs)
  rw [if_neg (by omega)]
  refine ⟨b, off + k * size, ?_, hz, hb, fun j u hu => ?_⟩
  · rw [Option.map_some, add_none]
  · rw [Nat.add_assoc]
    exact hcell _ u (by rw [← hu, List.getElem?_drop])
theorem of_own {base e : Nat} {c : Nat} (h : w.ownsRow base e size (.slice A n c) n xs) (hz : ∀ b, ablk A = some b → b < w.heap.size → Z b) : Rd w Z size A n xs := by
  refine ⟨h.1, fun hn => ?_⟩
  have hn' : 0 < n := Nat.pos_of_mul_pos_right hn
  obtain ⟨g, cap, hv, _, hlt⟩ := h.form hn'
  have hA : A = some ⟨g, 0, none⟩ := by injection hv
  subst hA
  refine ⟨g, 0, rfl, hz g rfl hlt, hlt, fun j u hu => ?_⟩
  have := h.cells (g := g) rfl j u hu
  rwa [add_none] at this
theorem of_block {b : Nat} {t : TypeId} {cs : Array Value} {fr : Nat × Nat} (h : w.heap[b]? = some (.cells cs t fr)) (hz : Z b) (hs : cs.size = n * size) : Rd w Z size (some ⟨b, 0, none⟩) n cs.toList := by
  refine ⟨by simpa using hs, fun _ => ⟨b, 0, rfl, hz, (Array.getElem?_eq_some_iff.1 h).1, fun j u hu => ?_⟩⟩
  rw [cell_of_row w b _ cs t fr h]
  simpa using hu
/-- a slice's literal, just laid -/
theorem lit {t : TypeId} {cs : Array Value} {b : Nat} (hs : cs.toList = xs) (hn : xs.length = n * size) (hb : b = w.heap.size) : Rd (w.alloc (.cells cs t)) (fun b => w.heap.size ≤ b) size (some ⟨b, 0, none⟩) n xs := by
  subst hs hb
  exact of_block (heap_alloc_new w _) (Nat.le_refl _) (by simpa using hn)
end Rd

/-- Block g is just the cells cs of element type t, none frozen. -/
def Blk (w : World) (g : Nat) (t : TypeId) (cs : Array Value) : Prop := w.heap[g]? = some (.cells cs t (0, 0))

namespace Blk
variable {w w' : World} {g : Nat} {t : TypeId} {cs : Array Value}
theorem lt (h : Blk w g t cs) : g < w.heap.size := (Array.getElem?_eq_some_iff.1 h).1
theorem cell (h : Blk w g t cs) (i : Nat) : w.cell? ⟨g, i, none⟩ = cs[i]? := cell_of_row w g i cs t (0, 0) h
theorem frozen (h : Blk w g t cs) (i : Nat) : w.frozen? ⟨g, i, none⟩ = false := by
  unfold Blk at h
  simp [World.frozen?, h]
theorem new (w : World) (t : TypeId) (cs : Array Value) : Blk (w.alloc (.cells cs t)) w.heap.size t cs := heap_alloc_new w _
theorem drew (h : Blk w g t cs) : Blk w.drew g t cs := h
theorem drewN (h : Blk w g t cs) (n : Nat) : Blk (w.drewN n) g t cs := h
theorem alloc (h : Blk w g t cs) (o : Obj) : Blk (w.alloc o) g t cs := (Below.heap_alloc w o g h.lt).trans h
theorem set_ (h : Blk w g t cs) (i : Nat) (u : Value) : Blk (w.setCell ⟨g, i, none⟩ u) g t (cs.setIfInBounds i u) := by
  unfold Blk at h ⊢
  simp [World.setCell, Array.getElem?_modify, h]
theorem far (h : Blk w g t cs) {p : Addr} (hp : g ≠ p.block) (u : Value) : Blk (w.setCell p u) g t cs := (Below.heap_setCell w p u g hp).trans h
theorem fr {S : Nat → Prop} (h : Blk w g t cs) (k : Fr S w w') (hs : ¬ S g) : Blk w' g t cs := (k.block g h.lt hs).trans h
theorem below (h : Blk w g t cs) (k : Below w.heap.size w w') : Blk w' g t cs := (k.block g h.lt).trans h
theorem grown {row : Option Nat} (h : Blk w g t cs) (hb : w.grownBy w' row) (hg : row ≠ some g) : Blk w' g t cs := (hb.block g h.lt (fun e => hg e.symm)).trans h
theorem ne_ {g' : Nat} {t' : TypeId} {cs' : Array Value} (h : Blk w g t cs) (h' : Blk w g' t' cs') (hne : t ≠ t') : g ≠ g' := by
  rintro rfl
  unfold Blk at h h'
  rw [h] at h'
  injection h' with h'
  injection h' with _ ht
  exact hne ht
theorem own_ne {base : Nat} {e : TypeId} {size n : Nat} {v : Value} {xs : List Value} (hg : Blk w g t cs) (h : w.ownsRow base e size v n xs) (hne : e ≠ t) : v.ownBlock ≠ some g := by
  rcases h.2 with ⟨rfl, _⟩ | ⟨g', cap, cur, rfl, _, hh, _⟩
  · simp [Value.ownBlock]
  · intro he
    have : g' = g := by simpa [Value.ownBlock] using he
    subst this
    exact Blk.ne_ (t := e) hh hg hne rfl
end Blk

theorem own_fr {w w' : World} {base : Nat} {e : TypeId} {size n : Nat} {v : Value} {xs : List Value} {S : Nat → Prop} (h : w.ownsRow base e size v n xs) (k : Fr S w w') (hs : ∀ g, v.ownBlock = some g → ¬ S g) : w'.ownsRow base e size v n xs := by
  refine ⟨h.1, ?_⟩
  rcases h.2 with hn | ⟨g, cap, cur, rfl, hb, hg, r⟩
  · exact .inl hn
  · exact .inr ⟨g, cap, cur, rfl, hb, by rw [k.block g (Array.getElem?_eq_some_iff.1 hg).1 (hs g rfl)]; exact hg, r⟩
theorem own_below {w w' : World} {base : Nat} {e : TypeId} {size n : Nat} {v : Value} {xs : List Value} (h : w.ownsRow base e size v n xs) (k : Below w.heap.size w w') : w'.ownsRow base e size v n xs :=
  own_fr h (Fr.of_below k (fun _ => False)) (fun _ _ h => h)
theorem own_form {w : World} {base : Nat} {e : TypeId} {size n : Nat} {v : Value} {xs : List Value} (h : w.ownsRow base e size v n xs) : ∃ A c, v = .slice A n c ∧ n ≤ c ∧ c ≤ maxLen ∧ (∀ b, ablk A = some b → base ≤ b ∧ b < w.heap.size ∧ v.ownBlock = some b) ∧ (A = none → n = 0 ∧ c = 0) ∧ (∀ a, A = some a → a = ⟨a.block, 0, none⟩) := by
  rcases h.2 with ⟨rfl, rfl⟩ | ⟨g, cap, cur, rfl, hb, hg, hn, hm, r⟩
  · exact ⟨none, 0, rfl, Nat.le_refl _, by simp [maxLen], by simp [ablk], by simp, by simp⟩
  · exact ⟨some ⟨g, 0, none⟩, cap, rfl, hn, hm, by rintro b hb'; simp [ablk] at hb'; subst hb'; exact ⟨hb, (Array.getElem?_eq_some_iff.1 hg).1, rfl⟩, by simp, by simp⟩
theorem own_base {w : World} {base base' : Nat} {e : TypeId} {size n : Nat} {v : Value} {xs : List Value} (h : w.ownsRow base e size v n xs) (hb : ∀ g, v.ownBlock = some g → base' ≤ g) : w.ownsRow base' e size v n xs := by
  refine ⟨h.1, ?_⟩
  rcases h.2 with hn | ⟨g, cap, cur, rfl, _, r⟩
  · exact .inl hn
  · exact .inr ⟨g, cap, cur, rfl, hb g rfl, r⟩
theorem own_lt {w : World} {base : Nat} {e : TypeId} {size n : Nat} {v : Value} {xs : List Value} (h : w.ownsRow base e size v n xs) : ∀ g, v.ownBlock = some g → base ≤ g ∧ g < w.heap.size := h.lt

section
variable {P : Program} (w : World)

theorem run_append_of_nil (base : Nat) (t ty e : TypeId) (i : TypeInfo) (size : Nat) (ht : P.underlying t = some (.slice e)) (hi : P.info? e = some i)
    (v : Value) (n : Nat) (xs : List Value) (hown : w.ownsRow base e size v n xs) (c : Nat) : (Builtin.append_ #[t, t] ty #[v, .slice none 0 c]).run P w = .ok v w := by
  rcases hown.2 with ⟨rfl, rfl⟩ | ⟨g, cap, cur, rfl, _, _, hnc, _⟩
  · simp [Builtin.append_, run_underlying ht, sizeOf, typeInfo, hi, Builtin.lenOf, Builtin.firstCells]
  · simp [Builtin.append_, run_underlying ht, sizeOf, typeInfo, hi, Builtin.lenOf, Builtin.firstCells, hnc, storeCells]

/-- append onto an owned row, whatever the source is -/
theorem run_append_any (base : Nat) (t ty e : TypeId) (i : TypeInfo) (z : Value) (size bytes : Nat) (ht : P.underlying t = some (.slice e)) (hi : P.info? e = some i) (hz : i.zero = some z)
    (hsize : i.size = size) (hby : i.bytes = bytes) (hzs : z.cells.size = size) (hsz : 0 < size)
    (v : Value) (n : Nat) (xs : List Value) (hown : w.ownsRow base e size v n xs)
    (Z : Nat → Prop) (A : Option Addr) (m c : Nat) (news : List Value) (hr : Rd w Z size A m news) (h1 : ∀ u ∈ news, u.oneCell' = true)
    (h63 : n + m ≤ maxLen) (hbytes : (n + m) * bytes ≤ 140737488355328) (hbase : base ≤ w.heap.size) :
    ∃ v' w', (Builtin.append_ #[t, t] ty #[v, .slice A m c]).run P w = .ok v' w' ∧ w'.ownsRow base e size v' (n + m) (xs ++ news) ∧ w.grownBy w' v.ownBlock ∧
      (v'.ownBlock = v.ownBlock ∨ v'.ownBlock = some w.heap.size) := by
  rcases A with _ | ad
  · have hm : m = 0 := by
      rcases Nat.eq_zero_or_pos m with h0 | h0
      · exact h0
      · obtain ⟨b, off, h, _⟩ := hr.2 (Nat.mul_pos h0 hsz)
        cases h
    subst hm
    have hn : news = [] := List.eq_nil_of_length_eq_zero (by simpa using hr.1)
    subst hn
    exact ⟨v, w, run_append_of_nil w base t ty e i size ht hi v n xs hown c, by simpa using hown, World.grownBy.refl w _, .inl rfl⟩
  · have hcells : ∀ j u, news[j]? = some u → w.cell? (ad.add j) = some u := by
      intro j u hu
      obtain ⟨b, off, h, _, _, hc⟩ := hr.atj hu
      injection h with h
      subst h
      rw [add_none]
      exact hc
    obtain ⟨v', w', hrun, h2, h3, _, h5⟩ := run_append_own_at (P := P) w base t ty e i z size bytes ht hi hz hsize hby hzs hsz v n xs hown ad m c news hr.1 hcells h1 h63 hbytes hbase
    exact ⟨v', w', hrun, h2, h3, h5⟩

theorem wp_append_any {o : Oper} {a : Act} {K : Act → World → Prop} {Q : Exit → Act → World → Prop} (s x : Operand) (t : TypeId)
    (ho : o.op = .call { callee := .builtin .append, args := #[s, x], argTypes := #[t, t] })
    (base : Nat) (e : TypeId) (i : TypeInfo) (z : Value) (size bytes : Nat) (ht : P.underlying t = some (.slice e)) (hi : P.info? e = some i) (hz : i.zero = some z)
    (hsize : i.size = size) (hby : i.bytes = bytes) (hzs : z.cells.size = size) (hsz : 0 < size)
    (v : Value) (n : Nat) (xs : List Value) (hs : a.eval s = v) (hown : w.ownsRow base e size v n xs)
    (Z : Nat → Prop) (A : Option Addr) (m c : Nat) (news : List Value) (hx : a.eval x = .slice A m c) (hr : Rd w Z size A m news) (h1 : ∀ u ∈ news, u.oneCell' = true)
    (h63 : n + m ≤ maxLen) (hbytes : (n + m) * bytes ≤ 140737488355328) (hbase : base ≤ w.heap.size)
    (h : ∀ v' w', w'.ownsRow base e size v' (n + m) (xs ++ news) → w.grownBy w' v.ownBlock → (v'.ownBlock = v.ownBlock ∨ v'.ownBlock = some w.heap.size) → K (a.put o.dst v') w') : o.wp P a w K Q := by
  obtain ⟨v', w', hrun, h2, h3, h4⟩ := run_append_any (P := P) w base t o.type e i z size bytes ht hi hz hsize hby hzs hsz v n xs hown Z A m c news hr h1 h63 hbytes hbase
  unfold Oper.wp execOp
  simp only [ho, resolve, invoke, builtin, Sem.run_bind, Sem.run_pure, Result.andThen_ok, List.map_toArray, List.map_cons, List.map_nil, hs, hx, hrun]
  exact h v' w' h2 h3 h4

theorem wpList_append_any {ops : Array Oper} {rest : List Oper} {o : Oper} {a : Act} {Q : Exit → Act → World → Prop} (hgd : o.guard = none) (s x : Operand) (t : TypeId)
    (ho : o.op = .call { callee := .builtin .append, args := #[s, x], argTypes := #[t, t] })
    (base : Nat) (e : TypeId) (i : TypeInfo) (z : Value) (size bytes : Nat) (ht : P.underlying t = some (.slice e)) (hi : P.info? e = some i) (hz : i.zero = some z)
    (hsize : i.size = size) (hby : i.bytes = bytes) (hzs : z.cells.size = size) (hsz : 0 < size)
    (v : Value) (n : Nat) (xs : List Value) (hs : a.eval s = v) (hown : w.ownsRow base e size v n xs)
    (Z : Nat → Prop) (A : Option Addr) (m c : Nat) (news : List Value) (hx : a.eval x = .slice A m c) (hr : Rd w Z size A m news) (h1 : ∀ u ∈ news, u.oneCell' = true)
    (h63 : n + m ≤ maxLen) (hbytes : (n + m) * bytes ≤ 140737488355328) (hbase : base ≤ w.heap.size)
    (h : ∀ v' w', w'.ownsRow base e size v' (n + m) (xs ++ news) → w.grownBy w' v.ownBlock → (v'.ownBlock = v.ownBlock ∨ v'.ownBlock = some w.heap.size) → wpList P ops Q rest (a.put o.dst v') w') : wpList P ops Q (o :: rest) a w :=
  wpList_plain hgd fun _ hK => wp_append_any w s x t ho base e i z size bytes ht hi hz hsize hby hzs hsz v n xs hs hown Z A m c news hx hr h1 h63 hbytes hbase fun v' w' h2 h3 h4 => hK _ _ (h v' w' h2 h3 h4)

theorem step_append_any {ops : Array Oper} {o : Oper} {a : Act} {K : Act → World → Prop} {Q : Exit → Act → World → Prop} {E : Prop} (hgd : o.guard = none) (s x : Operand) (t : TypeId)
    (ho : o.op = .call { callee := .builtin .append, args := #[s, x], argTypes := #[t, t] })
    (base : Nat) (e : TypeId) (i : TypeInfo) (z : Value) (size bytes : Nat) (ht : P.underlying t = some (.slice e)) (hi : P.info? e = some i) (hz : i.zero = some z)
    (hsize : i.size = size) (hby : i.bytes = bytes) (hzs : z.cells.size = size) (hsz : 0 < size)
    (v : Value) (n : Nat) (xs : List Value) (hs : a.eval s = v) (hown : w.ownsRow base e size v n xs)
    (Z : Nat → Prop) (A : Option Addr) (m c : Nat) (news : List Value) (hx : a.eval x = .slice A m c) (hr : Rd w Z size A m news) (h1 : ∀ u ∈ news, u.oneCell' = true)
    (h63 : n + m ≤ maxLen) (hbytes : (n + m) * bytes ≤ 140737488355328) (hbase : base ≤ w.heap.size)
    (h : ∀ v' w', w'.ownsRow base e size v' (n + m) (xs ++ news) → w.grownBy w' v.ownBlock → (v'.ownBlock = v.ownBlock ∨ v'.ownBlock = some w.heap.size) → K (a.put o.dst v') w') :
    if Region.wanted o (yielded ops a.tmps) = true then Oper.wp P o a w K Q else E := by
  have hw : Region.wanted o (yielded ops a.tmps) = true := by simp [Region.wanted, hgd]
  rw [if_pos hw]
  exact wp_append_any w s x t ho base e i z size bytes ht hi hz hsize hby hzs hsz v n xs hs hown Z A m c news hx hr h1 h63 hbytes hbase h
end

/-- a byte as a value -/
def bv (x : UInt8) : Value := .int .u8 (x.toNat : Int)
theorem bv_one (l : List UInt8) : ∀ u ∈ l.map bv, u.oneCell' = true := by
  intro u hu
  obtain ⟨x, _, rfl⟩ := List.mem_map.1 hu
  rfl
/-- the slice's address A reads as the bytes l -/
def By (w : World) (Z : Nat → Prop) (A : Option Addr) (l : List UInt8) : Prop := Rd w Z 1 A l.length (l.map bv)
/-- v owns a row of the bytes l -/
def OwB (w : World) (base : Nat) (v : Value) (l : List UInt8) : Prop := w.ownsRow base 5 1 v l.length (l.map bv)
theorem u8_info : (Try.prog.info? 5).map (fun i => (i.zero, i.size, i.bytes)) = some (some (.int .u8 0), 1, 1) := by kernel_rfl

theorem OwB.nil (w : World) (base : Nat) : OwB w base (.slice none 0 0) [] := World.ownsRow_nil _ _ _ _
theorem OwB.below {w w' : World} {base : Nat} {v : Value} {l : List UInt8} (h : OwB w base v l) (k : Below w.heap.size w w') : OwB w' base v l := own_below h k
theorem OwB.fr {w w' : World} {base : Nat} {v : Value} {l : List UInt8} {S : Nat → Prop} (h : OwB w base v l) (k : Fr S w w') (hs : ∀ g, v.ownBlock = some g → ¬ S g) : OwB w' base v l := own_fr h k hs
theorem OwB.alloc {w : World} {base : Nat} {v : Value} {l : List UInt8} (h : OwB w base v l) (o : Obj) : OwB (w.alloc o) base v l := World.ownsRow.alloc h o
theorem OwB.lit1 (w : World) {base : Nat} {b : UInt8} {x : Int} (hx : bv b = .int .u8 x) (hb : base ≤ w.heap.size) : OwB (w.alloc (.cells #[.int .u8 x] 5)) base (.slice (some ⟨w.heap.size, 0, none⟩) 1 1) [b] := by
  have := World.ownsRow_lit (base := base) (e := 5) (size := 1) w #[.int .u8 x] 1 hb (by simp [maxLen]) (by simp)
  unfold OwB
  rw [List.map_cons, List.map_nil, hx]
  exact this
/-- the form of an owned row of bytes -/
theorem OwB.form {w : World} {base : Nat} {v : Value} {l : List UInt8} (h : OwB w base v l) : ∃ A c, v = .slice A l.length c ∧ l.length ≤ c ∧ c ≤ maxLen ∧ (∀ b, ablk A = some b → base ≤ b ∧ b < w.heap.size ∧ v.ownBlock = some b) := by
  obtain ⟨A, c, h1, h2, h3, h4, _⟩ := own_form h
  exact ⟨A, c, h1, h2, h3, h4⟩
theorem OwB.rd {w : World} {base : Nat} {A : Option Addr} {c : Nat} {l : List UInt8} (h : OwB w base (.slice A l.length c) l) : By w (fun b => ablk A = some b) A l := Rd.of_own h (fun _ hb _ => hb)
theorem By.below {w w' : World} {Z : Nat → Prop} {A : Option Addr} {l : List UInt8} (h : By w Z A l) (k : Below w.heap.size w w') : By w' Z A l := Rd.below h k
theorem By.alloc {w : World} {Z : Nat → Prop} {A : Option Addr} {l : List UInt8} (h : By w Z A l) (o : Obj) : By (w.alloc o) Z A l := Rd.alloc h o
theorem By.fr {w w' : World} {Z S : Nat → Prop} {A : Option Addr} {l : List UInt8} (h : By w Z A l) (k : Fr S w w') (hs : ∀ b, b < w.heap.size → Z b → ¬ S b) : By w' Z A l := Rd.fr h k hs
theorem By.mono {w : World} {Z Z' : Nat → Prop} {A : Option Addr} {l : List UInt8} (h : By w Z A l) (hz : ∀ b, b < w.heap.size → Z b → Z' b) : By w Z' A l := Rd.mono h hz

theorem wpList_append_by {w : World} {ops : Array Oper} {rest : List Oper} {o : Oper} {a : Act} {Q : Exit → Act → World → Prop} (hgd : o.guard = none) (s x : Operand)
    (ho : o.op = .call { callee := .builtin .append, args := #[s, x], argTypes := #[23, 23] })
    {base : Nat} {v : Value} {l m : List UInt8} {Z : Nat → Prop} {A : Option Addr} {c : Nat} (hs : a.eval s = v) (hown : OwB w base v l) (hx : a.eval x = .slice A m.length c) (hr : By w Z A m)
    (hsum : l.length + m.length ≤ 140737488355328) (hbase : base ≤ w.heap.size)
    (h : ∀ (L : List UInt8) (A' : Option Addr) (c' : Nat) (w' : World), Hid (L = l ++ m) → OwB w' base (.slice A' L.length c') L → w.grownBy w' v.ownBlock → ((Value.slice A' L.length c').ownBlock = v.ownBlock ∨ (Value.slice A' L.length c').ownBlock = some w.heap.size) → wpList Try.prog ops Q rest (a.put o.dst (.slice A' L.length c')) w') : wpList Try.prog ops Q (o :: rest) a w := by
  obtain ⟨i0, hi0, hz0, hz1, hz2⟩ := info_parts u8_info
  refine wpList_append_any w hgd s x _ ho base 5 i0 _ 1 1 Try.underlying23 hi0 hz0 hz1 hz2 rfl (by omega) v l.length (l.map bv) hs hown Z A m.length c (m.map bv) hx hr (bv_one m) (by simp only [maxLen]; omega) (by omega) hbase ?_
  intro v' w' h1 h2 h3
  have ho : OwB w' base v' (l ++ m) := by
    unfold OwB
    rw [List.length_append, List.map_append]
    exact h1
  obtain ⟨A', c', rfl, _⟩ := ho.form
  exact h (l ++ m) A' c' w' rfl ho h2 h3
theorem step_append_by {w : World} {ops : Array Oper} {o : Oper} {a : Act} {K : Act → World → Prop} {Q : Exit → Act → World → Prop} {E : Prop} (hgd : o.guard = none) (s x : Operand)
    (ho : o.op = .call { callee := .builtin .append, args := #[s, x], argTypes := #[23, 23] })
    {base : Nat} {v : Value} {l m : List UInt8} {Z : Nat → Prop} {A : Option Addr} {c : Nat} (hs : a.eval s = v) (hown : OwB w base v l) (hx : a.eval x = .slice A m.length c) (hr : By w Z A m)
    (hsum : l.length + m.length ≤ 140737488355328) (hbase : base ≤ w.heap.size)
    (h : ∀ (L : List UInt8) (A' : Option Addr) (c' : Nat) (w' : World), Hid (L = l ++ m) → OwB w' base (.slice A' L.length c') L → w.grownBy w' v.ownBlock → ((Value.slice A' L.length c').ownBlock = v.ownBlock ∨ (Value.slice A' L.length c').ownBlock = some w.heap.size) → K (a.put o.dst (.slice A' L.length c')) w') :
    if Region.wanted o (yielded ops a.tmps) = true then Oper.wp Try.prog o a w K Q else E := by
  obtain ⟨i0, hi0, hz0, hz1, hz2⟩ := info_parts u8_info
  refine step_append_any w hgd s x _ ho base 5 i0 _ 1 1 Try.underlying23 hi0 hz0 hz1 hz2 rfl (by omega) v l.length (l.map bv) hs hown Z A m.length c (m.map bv) hx hr (bv_one m) (by simp only [maxLen]; omega) (by omega) hbase ?_
  intro v' w' h1 h2 h3
  have ho : OwB w' base v' (l ++ m) := by
    unfold OwB
    rw [List.length_append, List.map_append]
    exact h1
  obtain ⟨A', c', rfl, _⟩ := ho.form
  exact h (l ++ m) A' c' w' rfl ho h2 h3

/-- string(b) -/
theorem conv_by {w : World} {Z : Nat → Prop} {A : Option Addr} {l : List UInt8} (h : By w Z A l) (c : Nat) :
    (convert 23 9 (.slice A l.length c)).run Try.prog w = .ok (.string ⟨l.toArray⟩) w := by
  rcases A with _ | a
  · have hl : l = [] := by
      rcases l with _ | ⟨x, l⟩
      · rfl
      · obtain ⟨b, off, e, _⟩ := h.2 (by simp); cases e
    subst hl
    rw [run_convert_bytes_nil w 23 5 Try.underlying23 Try.underlying5 _ _ 9 Try.underlying9]
    rfl
  · rw [run_convert_bytes_string w 23 9 5 _ _ c Try.underlying23 Try.underlying5 Try.underlying9]
    have hn : l.map bv = (l.map fun x => (x.toNat : Int)).map (Value.int .u8) := by simp [bv, Function.comp_def]
    have hload : (loadCells a l.length).run Try.prog w = .ok ((l.map fun x => (x.toNat : Int)).map (Value.int .u8)).toArray w := by
      rw [← hn]
      have := run_loadCells_list (P := Try.prog) w a (l.map bv) (fun j v hj => by
        obtain ⟨b, off, e, _, _, hc⟩ := Rd.atj h hj
        injection e with e
        subst e
        rw [add_none]
        exact hc)
      rw [List.length_map] at this
      exact this
    rw [run_bytesToString w a l.length c _ hload, foldl_push_bytes]
    congr 2
    apply ByteArray.ext
    show ByteArray.empty.data ++ _ = _
    rw [show ByteArray.empty.data = #[] from rfl]
    simp [Function.comp_def]

/-- a byte slice as a value, and what it reads as -/
structure BV where
  A : Option Addr
  c : Nat
  l : List UInt8
abbrev BV.v (x : BV) : Value := .slice x.A x.l.length x.c
def BV.ok (w : World) (Z : Nat → Prop) (x : BV) : Prop := By w Z x.A x.l ∧ x.l.length ≤ x.c ∧ x.c ≤ maxLen
theorem BV.ok.by_ {w : World} {Z : Nat → Prop} {x : BV} (h : x.ok w Z) : By w Z x.A x.l := h.1
theorem BV.ok.fr {w w' : World} {Z S : Nat → Prop} {x : BV} (h : x.ok w Z) (k : Fr S w w') (hs : ∀ b, b < w.heap.size → Z b → ¬ S b) : x.ok w' Z := ⟨h.1.fr k hs, h.2⟩
theorem BV.ok.below {w w' : World} {Z : Nat → Prop} {x : BV} (h : x.ok w Z) (k : Below w.heap.size w w') : x.ok w' Z := ⟨h.1.below k, h.2⟩
theorem BV.ok.mono {w : World} {Z Z' : Nat → Prop} {x : BV} (h : x.ok w Z) (hz : ∀ b, b < w.heap.size → Z b → Z' b) : x.ok w Z' := ⟨h.1.mono hz, h.2⟩
/-- a fresh owned row as a byte slice -/
theorem OwB.bv_ {w : World} {base : Nat} {v : Value} {l : List UInt8} (h : OwB w base v l) : ∃ x : BV, v = x.v ∧ x.l = l ∧ x.ok w (fun b => v.ownBlock = some b) ∧ OwB w base x.v l := by
  obtain ⟨A, c, rfl, h1, h2, h3⟩ := h.form
  exact ⟨⟨A, c, l⟩, rfl, rfl, ⟨h.rd.mono (fun b hb hz => (h3 b hz).2.2), h1, h2⟩, h⟩
def u64v (n : Nat) : Value := .int .u64 (n : Int)
end Go.Proofs.Ytmdbfhfjaapeoaa

/- Rows by numbers, rising; maps keyed by ints as such rows: whatever the elements are. No program. -/
namespace Go.Proofs.Ytmdbfhfjaapeoaa
open Go.Maps (Keyed int_keyed)
open Go.WideShapes Go.MapKept Go.ChangeMaps

section
variable {α β : Type}
def getZ : List (Int × α) → Int → Option α
  | [], _ => none
  | x :: l, n => if x.1 = n then some x.2 else getZ l n
def putZ : List (Int × α) → Int → α → List (Int × α)
  | [], n, v => [(n, v)]
  | x :: l, n, v => if n < x.1 then (n, v) :: x :: l else if x.1 = n then (n, v) :: l else x :: putZ l n v
def withoutZ (L : List (Int × α)) (n : Int) : List (Int × α) := L.filter fun x => decide (x.1 ≠ n)
def keysZ (L : List (Int × α)) : List Int := L.map (·.1)
def SortZ (L : List (Int × α)) : Prop := (keysZ L).Pairwise (· < ·)
theorem sortZ_nil : SortZ ([] : List (Int × α)) := List.Pairwise.nil
theorem keysZ_len (L : List (Int × α)) : (keysZ L).length = L.length := by simp [keysZ]
theorem getZ_put (L : List (Int × α)) (n : Int) (v : α) (m : Int) : getZ (putZ L n v) m = if m = n then some v else getZ L m := by
  induction L with
  | nil =>
    unfold putZ getZ getZ
    by_cases h : n = m
    · rw [if_pos h, if_pos h.symm]
    · rw [if_neg h, if_neg (fun e => h e.symm)]
  | cons x l ih =>
    unfold putZ
    split
    · by_cases h : m = n
      · subst h
        rw [if_pos rfl]
        unfold getZ
        rw [if_pos rfl]
      · rw [if_neg h]
        conv => lhs; unfold getZ
        rw [if_neg (fun e => h e.symm)]
    · split
      · rename_i h1 h2
        conv => lhs; unfold getZ
        dsimp only
        by_cases h : m = n
        · rw [if_pos h, if_pos h.symm]
        · rw [if_neg h, if_neg (fun e => h e.symm)]
          conv => rhs; unfold getZ
          rw [if_neg (by rw [h2]; exact fun e => h e.symm)]
      · rename_i h1 h2
        conv => lhs; unfold getZ
        rw [ih]
        conv => rhs; unfold getZ
        by_cases h : x.1 = m
        · rw [if_pos h, if_pos h, if_neg (by rw [← h]; exact h2)]
        · rw [if_neg h, if_neg h]
theorem getZ_without (L : List (Int × α)) (n m : Int) : getZ (withoutZ L n) m = if m = n then none else getZ L m := by
  induction L with
  | nil => simp [withoutZ, getZ]
  | cons x l ih =>
    unfold withoutZ at ih ⊢
    rw [List.filter_cons]
    by_cases hx : x.1 = n
    · rw [if_neg (by simpa using hx), ih]
      conv => rhs; unfold getZ
      by_cases h : m = n
      · rw [if_pos h, if_pos h]
      · rw [if_neg h, if_neg h, if_neg (by rw [hx]; exact fun e => h e.symm)]
    · rw [if_pos (by simpa using hx)]
      unfold getZ
      rw [ih]
      by_cases h : x.1 = m
      · rw [if_pos h, if_pos h, if_neg (by rw [← h]; exact hx)]
      · rw [if_neg h, if_neg h]
theorem getZ_isSome {L : List (Int × α)} {n : Int} : (getZ L n).isSome = true ↔ n ∈ keysZ L := by
  induction L with
  | nil => simp [getZ, keysZ]
  | cons x l ih =>
    unfold getZ
    show _ ↔ n ∈ x.1 :: keysZ l
    rw [List.mem_cons]
    by_cases h : x.1 = n
    · simp [h]
    · rw [if_neg h, ih]
      constructor
      · exact .inr
      · rintro (e | e)
        · exact absurd e.symm h
        · exact e
theorem getZ_mem {L : List (Int × α)} {n : Int} {v : α} (h : getZ L n = some v) : (n, v) ∈ L := by
  induction L with
  | nil => simp [getZ] at h
  | cons x l ih =>
    unfold getZ at h
    split at h
    · rename_i e
      injection h with h
      subst e h
      exact List.mem_cons_self
    · exact List.mem_cons_of_mem _ (ih h)
theorem getZ_map (f : α → β) (L : List (Int × α)) (n : Int) : getZ (L.map fun x => (x.1, f x.2)) n = (getZ L n).map f := by
  induction L with
  | nil => rfl
  | cons x l ih =>
    rw [List.map_cons]
    unfold getZ
    dsimp only
    split
    · rfl
    · exact ih
theorem keysZ_map (f : α → β) (L : List (Int × α)) : keysZ (L.map fun x => (x.1, f x.2)) = keysZ L := by simp [keysZ, Function.comp_def]
theorem putZ_map (f : α → β) (L : List (Int × α)) (n : Int) (v : α) : putZ (L.map fun x => (x.1, f x.2)) n (f v) = (putZ L n v).map fun x => (x.1, f x.2) := by
  induction L with
  | nil => rfl
  | cons x l ih =>
    rw [List.map_cons]
    unfold putZ
    dsimp only
    split
    · rfl
    · split
      · rfl
      · rw [ih, List.map_cons]
theorem withoutZ_map (f : α → β) (L : List (Int × α)) (n : Int) : withoutZ (L.map fun x => (x.1, f x.2)) n = (withoutZ L n).map fun x => (x.1, f x.2) := by
  unfold withoutZ
  rw [List.filter_map]
  rfl
theorem putZ_keys {L : List (Int × α)} {n : Int} {v : α} {m : Int} : m ∈ keysZ (putZ L n v) ↔ m = n ∨ m ∈ keysZ L := by
  rw [← getZ_isSome, ← getZ_isSome, getZ_put]
  by_cases h : m = n
  · simp [h]
  · simp [h]
theorem putZ_mem {L : List (Int × α)} {n : Int} {v : α} {x : Int × α} (h : x ∈ putZ L n v) : x = (n, v) ∨ x ∈ L := by
  induction L with
  | nil => simpa [putZ] using h
  | cons y l ih =>
    unfold putZ at h
    split at h
    · rcases List.mem_cons.1 h with h | h
      · exact .inl h
      · exact .inr h
    · split at h
      · rcases List.mem_cons.1 h with h | h
        · exact .inl h
        · exact .inr (List.mem_cons_of_mem _ h)
      · rcases List.mem_cons.1 h with h | h
        · exact .inr (by rw [h]; exact List.mem_cons_self)
        · rcases ih h with h | h
          · exact .inl h
          · exact .inr (List.mem_cons_of_mem _ h)
theorem SortZ.nodup {L : List (Int × α)} (h : SortZ L) : (keysZ L).Nodup := h.imp fun h => by omega
theorem SortZ.put {L : List (Int × α)} (h : SortZ L) (n : Int) (v : α) : SortZ (putZ L n v) := by
  induction L with
  | nil => simp [putZ, SortZ, keysZ]
  | cons x l ih =>
    have h0 := h
    unfold SortZ keysZ at h
    rw [List.map_cons, List.pairwise_cons] at h
    obtain ⟨h1, h2⟩ := h
    unfold putZ
    split
    · rename_i hn
      unfold SortZ keysZ
      rw [List.map_cons, List.pairwise_cons]
      refine ⟨fun m hm => ?_, h0⟩
      rw [List.map_cons] at hm
      rcases List.mem_cons.1 hm with rfl | hm
      · exact hn
      · have := h1 m hm
        omega
    · split
      · rename_i hn hx
        unfold SortZ keysZ
        rw [List.map_cons, List.pairwise_cons]
        refine ⟨fun m hm => ?_, h2⟩
        have := h1 m hm
        omega
      · rename_i hn hx
        have h3 := ih h2
        unfold SortZ keysZ
        rw [List.map_cons, List.pairwise_cons]
        refine ⟨fun m hm => ?_, h3⟩
        rcases putZ_keys.1 (show m ∈ keysZ (putZ l n v) from hm) with rfl | hm
        · omega
        · exact h1 m hm
theorem SortZ.without {L : List (Int × α)} (h : SortZ L) (n : Int) : SortZ (withoutZ L n) :=
  List.Pairwise.sublist ((List.filter_sublist).map _) h
theorem SortZ.get {L : List (Int × α)} (h : SortZ L) {x : Int × α} (hx : x ∈ L) : getZ L x.1 = some x.2 := by
  induction L with
  | nil => cases hx
  | cons y l ih =>
    unfold SortZ keysZ at h
    rw [List.map_cons, List.pairwise_cons] at h
    unfold getZ
    rcases List.mem_cons.1 hx with rfl | hx
    · rw [if_pos rfl]
    · rw [if_neg (by have := h.1 x.1 (List.mem_map.2 ⟨x, hx, rfl⟩); omega)]
      exact ih h.2 hx
theorem SortZ.map (f : α → β) {L : List (Int × α)} (h : SortZ L) : SortZ (L.map fun x => (x.1, f x.2)) := by
  unfold SortZ
  rw [keysZ_map]
  exact h
/-- behind all others -/
theorem putZ_last {L : List (Int × α)} {n : Int} (v : α) (h : ∀ m ∈ keysZ L, m < n) : putZ L n v = L ++ [(n, v)] := by
  induction L with
  | nil => rfl
  | cons x l ih =>
    have h1 := h x.1 (by simp [keysZ])
    unfold putZ
    rw [if_neg (by omega), if_neg (by omega), ih (fun m hm => h m (by simp only [keysZ, List.map_cons] at hm ⊢; exact List.mem_cons_of_mem _ hm))]
    rfl
/-- in the place of what is there -/
theorem putZ_set {L : List (Int × α)} (hs : SortZ L) {i : Nat} (hi : i < L.length) (v : α) : putZ L L[i].1 v = L.set i (L[i].1, v) := by
  induction L generalizing i with
  | nil => cases hi
  | cons x l ih =>
    have hs0 := hs
    unfold SortZ keysZ at hs
    rw [List.map_cons, List.pairwise_cons] at hs
    cases i with
    | zero =>
      unfold putZ
      simp
    | succ i =>
      have hi' : i < l.length := by simpa using hi
      have h1 := hs.1 l[i].1 (List.mem_map.2 ⟨l[i], List.getElem_mem hi', rfl⟩)
      unfold putZ
      rw [List.getElem_cons_succ, if_neg (by omega), if_neg (by omega), ih hs.2 hi', List.set_cons_succ]
/-- the keys, however they came -/
theorem keysZ_sort {L : List (Int × α)} (h : SortZ L) {ss : List Int} (hp : ss.Perm (keysZ L)) : ss.mergeSort leI = keysZ L := by
  rw [mergeSort_of_perm_i hp]
  exact List.mergeSort_of_pairwise (h.imp fun h => by simp; omega)
end

/-- an element as it is -/
def heldZ : Value → Option (DataW Value × List MemPlace) := fun v => some (.held v, [])
/-- what a map's datum tells at each number is what the row tells -/
def TellsZ (D : DataW Value) (L : List (Int × Value)) : Prop := ∀ n z, D.atKey (.int .i64 n) z = ((getZ L n).map DataW.held).getD z
theorem TellsZ.has {D : DataW Value} {L : List (Int × Value)} (h : TellsZ D L) (n : Int) : Go.Maps.has D (.int .i64 n) = (getZ L n).isSome := by
  rcases hg : getZ L n with _ | v
  · exact Go.Maps.has_false_of_atKey fun z => by rw [h, hg]; rfl
  · exact Go.Maps.has_true_of_atKey (y := .held v) fun z => by rw [h, hg]; rfl
theorem TellsZ.nil : TellsZ (.map []) [] := fun _ _ => rfl
theorem TellsZ.put {D : DataW Value} {L : List (Int × Value)} (h : TellsZ D L) (hD : Go.Maps.IsMap D) (n : Int) (v : Value) : TellsZ (D.put (.int .i64 n) (.held v)) (putZ L n v) := fun q z => by
  rw [getZ_put]
  by_cases hq : q = n
  · subst hq
    rw [if_pos rfl, Go.Maps.atKey_put_same hD (k := .int .i64 q) (show WideAt.IsKeyLit (.int .i64 q) from trivial)]
    rfl
  · rw [if_neg hq, Go.Maps.atKey_put_other (by simpa using hq), h]
theorem TellsZ.del {D : DataW Value} {L : List (Int × Value)} (h : TellsZ D L) (n : Int) : TellsZ (D.del (.int .i64 n)) (withoutZ L n) := fun q z => by
  rw [getZ_without]
  by_cases hq : q = n
  · subst hq
    rw [if_pos rfl, Go.Maps.atKey_del_same]
    rfl
  · rw [if_neg hq, Go.Maps.atKey_del_other (by simpa using hq), h]

section
variable {P : Program} {K : TypeId} {w w' : World} {b : Nat} {L : List (Int × Value)}
/-- block b is a map of type K's keys that has what the row has -/
structure MapZ (w : World) (P : Program) (K : TypeId) (b : Nat) (L : List (Int × Value)) : Prop where
  sort : SortZ L
  own : ∃ D, w.ownsMap P K heldZ b L.length D ∧ TellsZ D L
  wf : ∀ x ∈ L, (Lit.int .i64 x.1).wf = true

theorem ownZ_shrink {H : Type} {R : Value → Option (DataW H × List MemPlace)} {n : Nat} {D : DataW H} (h : w.ownsMap P K R b n D) : w.ownsMap P K R b (Go.Maps.size D) D := by
  obtain ⟨es, clock, hb, F, _, rfl⟩ := h
  exact ⟨es, clock, hb, F, by rw [Go.Maps.size_eq, length_sorted]; simp, rfl⟩
/-- what the datum has are the row's numbers -/
theorem ownZ_keys {n : Nat} {D : DataW Value} (h : w.ownsMap P K heldZ b n D) (hk : P.underlying K = some (.int .i64)) (ht : TellsZ D L) (hs : SortZ L) : (keysZ L).Perm (intKeys D) ∧ Go.Maps.size D = L.length := by
  have law : Keyed P K := int_keyed hk
  obtain ⟨es, hD, hpw, _⟩ := h.entries law
  obtain ⟨es', hD', hko⟩ := h.keysOf
  obtain rfl : es = es' := by rw [hD] at hD'; simpa using hD'
  have hp : (keysZ L).Perm (intKeys D) := by
    rw [hD]
    refine perm_intKeys hpw (fun p hp => by obtain ⟨v, hv⟩ := hko p hp; obtain ⟨x, _, hx, _⟩ := Maps.keyOf_i64 hk hv; exact ⟨x, hx⟩) hs.nodup fun x => ?_
    rw [← hD, ht.has, getZ_isSome]
  refine ⟨hp, ?_⟩
  have := hp.length_eq
  rw [keysZ_len] at this
  rw [this, hD]
  simp [Go.Maps.size, intKeys]
theorem MapZ.of {n : Nat} {D : DataW Value} (h : w.ownsMap P K heldZ b n D) (hk : P.underlying K = some (.int .i64)) (ht : TellsZ D L) (hs : SortZ L) : MapZ w P K b L := by
  obtain ⟨hp, hz⟩ := ownZ_keys h hk ht hs
  refine ⟨hs, ⟨D, by rw [← hz]; exact ownZ_shrink h, ht⟩, fun x hx => intKeys_wf h hk _ (hp.mem_iff.1 (List.mem_map.2 ⟨x, hx, rfl⟩))⟩
theorem MapZ.lt (h : MapZ w P K b L) : b < w.heap.size := by
  obtain ⟨D, h1, _⟩ := h.own
  exact h1.lt
theorem MapZ.kept {row : Option Nat} (h : MapZ w P K b L) (hg : w.grownBy w' row) (hne : some b ≠ row) : MapZ w' P K b L := by
  obtain ⟨D, h1, h2⟩ := h.own
  exact ⟨h.sort, ⟨D, h1.kept hg hne, h2⟩, h.wf⟩
theorem MapZ.block (h : MapZ w P K b L) (hb : w'.heap[b]? = w.heap[b]?) : MapZ w' P K b L := by
  obtain ⟨D, ⟨es, clock, h1, r⟩, h2⟩ := h.own
  exact ⟨h.sort, ⟨D, ⟨es, clock, hb.trans h1, r⟩, h2⟩, h.wf⟩
/-- a new one -/
theorem MapZ.made (w : World) (P : Program) (K : TypeId) : MapZ (w.alloc (.map #[] 0)) P K w.heap.size [] := ⟨sortZ_nil, ⟨_, World.ownsMap_made w P K heldZ, TellsZ.nil⟩, by simp⟩
theorem MapZ.not_cells (h : MapZ w P K b L) {cs : Array Value} {t : TypeId} {f : Nat × Nat} : w.heap[b]? ≠ some (.cells cs t f) := by
  obtain ⟨D, ⟨es, clock, h1, _⟩, _⟩ := h.own
  rw [h1]
  simp
/-- m[k] -/
theorem MapZ.look (h : MapZ w P K b L) (hk : P.underlying K = some (.int .i64)) {t e : TypeId} (ht : P.underlying t = some (.map K e)) {z : Value} (hz : (zeroValue e).run P w = .ok z w) (n : Int) (hn : (Lit.int .i64 n).wf = true) :
    (Instr.lookup t (.map (some b)) (.int .i64 n) false).run P w = .ok ((getZ L n).getD z) w := by
  obtain ⟨D, h1, h2⟩ := h.own
  obtain ⟨v, ps, hrun, hv⟩ := h1.lookup (int_keyed hk) ht hz (zd := .held z) (zp := []) rfl (Go.Maps.keyOf_int_mk hk hn)
  rw [hrun]
  have : DataW.held v = D.atKey (.int .i64 n) (.held z) := by simpa [heldZ] using congrArg (fun o => o.map Prod.fst) hv
  rw [h2] at this
  congr 1
  rcases hg : getZ L n with _ | u
  · rw [hg] at this; simpa using this
  · rw [hg] at this; simpa using this
theorem MapZ.look_ok (h : MapZ w P K b L) (hk : P.underlying K = some (.int .i64)) {t e : TypeId} (ht : P.underlying t = some (.map K e)) {z : Value} (hz : (zeroValue e).run P w = .ok z w) (n : Int) (hn : (Lit.int .i64 n).wf = true) :
    (Instr.lookup t (.map (some b)) (.int .i64 n) true).run P w = .ok (.tuple #[(getZ L n).getD z, .bool (getZ L n).isSome]) w := by
  obtain ⟨D, h1, h2⟩ := h.own
  obtain ⟨v, ps, hrun, hv⟩ := h1.look_ok (int_keyed hk) ht hz (zd := .held z) (zp := []) rfl (Go.Maps.keyOf_int_mk hk hn)
  rw [h2.has n] at hrun
  rw [hrun]
  have : DataW.held v = D.atKey (.int .i64 n) (.held z) := by simpa [heldZ] using congrArg (fun o => o.map Prod.fst) hv
  rw [h2] at this
  have e : v = (getZ L n).getD z := by
    rcases hg : getZ L n with _ | u
    · rw [hg] at this; simpa using this
    · rw [hg] at this; simpa using this
  rw [e]
/-- m[k] = v -/
theorem MapZ.store (h : MapZ w P K b L) (hk : P.underlying K = some (.int .i64)) {t e : TypeId} (ht : P.underlying t = some (.map K e)) (n : Int) (hn : (Lit.int .i64 n).wf = true) (v : Value) (hl : L.length < maxLen) :
    ∃ w', (Instr.mapUpdate t (.map (some b)) (.int .i64 n) v).run P w = .ok () w' ∧ MapZ w' P K b (putZ L n v) ∧ w.grownBy w' (some b) ∧ w'.heap.size = w.heap.size := by
  obtain ⟨D, h1, h2⟩ := h.own
  obtain ⟨w', hrun, r1, r2⟩ := h1.store (int_keyed hk) ht hl (Go.Maps.keyOf_int_mk hk hn) (val := v) (d := .held v) (ps := []) rfl
  refine ⟨w', hrun, MapZ.of r1 hk (h2.put h1.isMap n v) (h.sort.put n v), r2.grown, ?_⟩
  obtain ⟨_, _, es', clock', _, rfl⟩ := r2
  simp [setBlock]
/-- delete(m, k) -/
theorem MapZ.drop (h : MapZ w P K b L) (hk : P.underlying K = some (.int .i64)) {t e : TypeId} (ht : P.underlying t = some (.map K e)) (n : Int) (hn : (Lit.int .i64 n).wf = true) (ty : TypeId) :
    ∃ w', (Builtin.delete_ #[t, K] ty #[.map (some b), .int .i64 n]).run P w = .ok (.tuple #[]) w' ∧ MapZ w' P K b (withoutZ L n) ∧ w.grownBy w' (some b) ∧ w'.heap.size = w.heap.size := by
  obtain ⟨D, h1, h2⟩ := h.own
  obtain ⟨w', hrun, r1, r2⟩ := h1.drop (int_keyed hk) ht (Go.Maps.keyOf_int_mk hk hn) ty
  refine ⟨w', hrun, MapZ.of r1 hk (h2.del n) (h.sort.without n), r2.grown, ?_⟩
  obtain ⟨_, _, es', clock', _, rfl⟩ := r2
  simp [setBlock]
end
end Go.Proofs.Ytmdbfhfjaapeoaa

/- A disk, plainly: what each call answers and leaves. No program. -/
namespace Go.Proofs.Ytmdbfhfjaapeoaa

/-- a file, plainly: its bytes, and how many are sure -/
abbrev FP := List UInt8 × Int
structure DP where
  L : List (Int × FP)
  last : Int
  room : Int
  left : Int
def usedS (L : List (Int × FP)) : Nat := (L.map fun x => x.2.1.length).sum
def countS (D : DP) : DP := if 0 < D.left then { D with left := D.left - 1 } else D
def askS (D : DP) (n : Int) : Int := if D.left = 0 then 25 else if (getZ D.L n).isNone = true then 20 else 0
def fileS (D : DP) (n : Int) : FP := (getZ D.L n).getD ([], 0)
def makeS (D : DP) : DP × Int × Int := if D.left = 0 then (D, 0, 25) else (countS { D with last := D.last + 1, L := putZ D.L (D.last + 1) ([], 0) }, D.last + 1, 0)
def appendS (D : DP) (n : Int) (b : List UInt8) : DP × Int :=
  if askS D n ≠ 0 then (D, askS D n)
  else if D.room < (usedS D.L : Int) + (b.length : Int) then (D, 24)
  else (countS { D with L := putZ D.L n ((fileS D n).1 ++ b, (fileS D n).2) }, 0)
def syncS (D : DP) (n : Int) : DP × Int :=
  if askS D n ≠ 0 then (D, askS D n) else (countS { D with L := putZ D.L n ((fileS D n).1, ((fileS D n).1.length : Int)) }, 0)
def dropD (D : DP) (n : Int) : DP × Int :=
  if askS D n ≠ 0 then (D, askS D n) else (countS { D with L := withoutZ D.L n }, 0)
def readS (D : DP) (n : Int) : List UInt8 × Int := if askS D n ≠ 0 then ([], askS D n) else ((fileS D n).1, 0)
def stopS (D : DP) (n : Int) : DP := if D.left = 0 then D else { D with left := max n (-1) }
/-- how many bytes of a file a crash keeps -/
def manyS (kept : List (Int × Int)) (n : Int) (f : FP) : Int :=
  match getZ kept n with
  | none => f.2
  | some k => min (max f.2 k) (f.1.length : Int)
def crashF (kept : List (Int × Int)) (x : Int × FP) : Int × FP := (x.1, (x.2.1.take (manyS kept x.1 x.2).toNat, manyS kept x.1 x.2))
def crashS (D : DP) (kept : List (Int × Int)) : DP := { D with left := -1, L := D.L.map (crashF kept) }
def newD (room : Int) : DP := ⟨[], 0, min (max room 0) 1048576, -1⟩

/-- what every disk keeps; k: as many calls have been at most -/
structure DOk (D : DP) (k : Nat) : Prop where
  sort : SortZ D.L
  key : ∀ n ∈ keysZ D.L, 1 ≤ n ∧ n ≤ D.last
  last : 0 ≤ D.last ∧ D.last ≤ (k : Int)
  len : D.L.length ≤ k
  sure : ∀ x ∈ D.L, 0 ≤ x.2.2 ∧ x.2.2 ≤ (x.2.1.length : Int)
  room : (usedS D.L : Int) ≤ D.room ∧ D.room ≤ 1048576
  left : -1 ≤ D.left ∧ D.left < 9223372036854775808
theorem DOk.new (room : Int) : DOk (newD room) 0 := ⟨sortZ_nil, by simp [newD, keysZ], by simp [newD], by simp [newD], by simp [newD], by simp only [newD, usedS, List.map_nil, List.sum_nil]; omega, by simp [newD]⟩
theorem DOk.mono {D : DP} {k k' : Nat} (h : DOk D k) (hk : k ≤ k') : DOk D k' := ⟨h.sort, h.key, by have := h.last; omega, by have := h.len; omega, h.sure, h.room, h.left⟩
theorem DOk.count {D : DP} {k : Nat} (h : DOk D k) : DOk (countS D) k := by
  unfold countS
  split
  · exact ⟨h.sort, h.key, h.last, h.len, h.sure, h.room, by have := h.left; dsimp only; omega⟩
  · exact h
theorem used_put {L : List (Int × FP)} (h : SortZ L) (n : Int) (v : FP) : usedS (putZ L n v) + ((getZ L n).getD ([], 0)).1.length = usedS L + v.1.length := by
  induction L with
  | nil => simp [putZ, getZ, usedS]
  | cons x l ih =>
    have h0 := h
    unfold SortZ keysZ at h
    rw [List.map_cons, List.pairwise_cons] at h
    have ih := ih h.2
    unfold putZ
    split
    · rename_i hn
      have hg : getZ (x :: l) n = none := by
        rcases hq : getZ (x :: l) n with _ | u
        · rfl
        · exfalso
          have hm : n ∈ keysZ (x :: l) := getZ_isSome.1 (by rw [hq]; rfl)
          rcases List.mem_cons.1 (show n ∈ x.1 :: keysZ l from hm) with e | e
          · omega
          · have := h.1 n e; omega
      rw [hg]
      simp [usedS]
      omega
    · split
      · rename_i hn hx
        unfold getZ
        rw [if_pos hx]
        simp [usedS]
        omega
      · rename_i hn hx
        unfold getZ
        rw [if_neg hx]
        simp only [usedS, List.map_cons, List.sum_cons] at ih ⊢
        omega
theorem used_without (L : List (Int × FP)) (n : Int) : usedS (withoutZ L n) ≤ usedS L := by
  induction L with
  | nil => simp [withoutZ, usedS]
  | cons x l ih =>
    unfold withoutZ at ih ⊢
    rw [List.filter_cons]
    split
    · simp only [usedS, List.map_cons, List.sum_cons] at ih ⊢; omega
    · simp only [usedS, List.map_cons, List.sum_cons] at ih ⊢; omega
theorem put_len (L : List (Int × FP)) (n : Int) (v : FP) : (putZ L n v).length ≤ L.length + 1 ∧ (n ∈ keysZ L → SortZ L → (putZ L n v).length = L.length) := by
  induction L with
  | nil => exact ⟨by simp [putZ], by simp [keysZ]⟩
  | cons x l ih =>
    unfold putZ
    split
    · rename_i hn
      refine ⟨by simp, fun hm hs => ?_⟩
      exfalso
      unfold SortZ keysZ at hs
      rw [List.map_cons, List.pairwise_cons] at hs
      rcases List.mem_cons.1 (show n ∈ x.1 :: keysZ l from hm) with e | e
      · omega
      · have := hs.1 n e; omega
    · split
      · simp
      · rename_i h1 h2
        refine ⟨by simpa using ih.1, fun hm hs => ?_⟩
        unfold SortZ keysZ at hs
        rw [List.map_cons, List.pairwise_cons] at hs
        rcases List.mem_cons.1 (show n ∈ x.1 :: keysZ l from hm) with e | e
        · exact absurd e.symm h2
        · have := ih.2 e hs.2
          simpa using this
theorem ask_some {D : DP} {n : Int} (h : askS D n = 0) : D.left ≠ 0 ∧ getZ D.L n = some (fileS D n) ∧ n ∈ keysZ D.L := by
  unfold askS at h
  split at h
  · simp at h
  · rename_i h1
    split at h
    · simp at h
    · rename_i h2
      unfold fileS
      rcases hg : getZ D.L n with _ | v
      · rw [hg] at h2; simp at h2
      · exact ⟨h1, rfl, getZ_isSome.1 (by rw [hg]; rfl)⟩
theorem file_sure {D : DP} {k : Nat} (h : DOk D k) (n : Int) : 0 ≤ (fileS D n).2 ∧ (fileS D n).2 ≤ ((fileS D n).1.length : Int) := by
  unfold fileS
  rcases hg : getZ D.L n with _ | v
  · simp
  · exact h.sure _ (getZ_mem hg)
theorem file_used (D : DP) (n : Int) : (fileS D n).1.length ≤ usedS D.L := by
  unfold fileS
  rcases hg : getZ D.L n with _ | v
  · simp
  · have hm := getZ_mem hg
    show v.1.length ≤ _
    have : ∀ (l : List (Int × FP)), (n, v) ∈ l → v.1.length ≤ usedS l := by
      intro l
      induction l with
      | nil => intro h; cases h
      | cons y l ih =>
        intro h
        simp only [usedS, List.map_cons, List.sum_cons]
        rcases List.mem_cons.1 h with rfl | h
        · dsimp only; omega
        · have := ih h
          unfold usedS at this
          omega
    exact this _ hm
theorem DOk.make {D : DP} {k : Nat} (h : DOk D k) : DOk (makeS D).1 (k + 1) := by
  unfold makeS
  split
  · exact h.mono (by omega)
  · have hno : getZ D.L (D.last + 1) = none := by
      rcases hq : getZ D.L (D.last + 1) with _ | u
      · rfl
      · have := h.key _ (getZ_isSome.1 (by rw [hq]; rfl)); omega
    refine DOk.count ⟨h.sort.put _ _, fun n hn => ?_, by have := h.last; dsimp only; omega, by have := (put_len D.L (D.last + 1) ([], 0)).1; have := h.len; dsimp only; omega, fun x hx => ?_, ?_, h.left⟩
    · rcases putZ_keys.1 hn with rfl | hn
      · have := h.last; dsimp only; omega
      · have := h.key n hn; dsimp only; omega
    · rcases putZ_mem hx with rfl | hx
      · simp
      · exact h.sure x hx
    · have := used_put h.sort (D.last + 1) ([], 0)
      rw [hno] at this
      have h3 : usedS (putZ D.L (D.last + 1) ([], 0)) = usedS D.L := by simpa using this
      dsimp only
      rw [h3]
      exact h.room
theorem DOk.put {D : DP} {k : Nat} (h : DOk D k) {n : Int} (hn : n ∈ keysZ D.L) (f : FP) (hf : 0 ≤ f.2 ∧ f.2 ≤ (f.1.length : Int)) (hr : (usedS (putZ D.L n f) : Int) ≤ D.room) : DOk { D with L := putZ D.L n f } k := by
  refine ⟨h.sort.put _ _, fun m hm => ?_, h.last, by have := (put_len D.L n f).2 hn h.sort; have := h.len; dsimp only; omega, fun x hx => ?_, ⟨hr, h.room.2⟩, h.left⟩
  · rcases putZ_keys.1 hm with rfl | hm
    · exact h.key _ hn
    · exact h.key m hm
  · rcases putZ_mem hx with rfl | hx
    · exact hf
    · exact h.sure x hx
theorem DOk.append {D : DP} {k : Nat} (h : DOk D k) (n : Int) (b : List UInt8) : DOk (appendS D n b).1 k := by
  unfold appendS
  split
  · exact h
  · rename_i h1
    split
    · exact h
    · rename_i h2
      obtain ⟨_, hg, hk⟩ := ask_some (by simpa using h1)
      have hs := file_sure h n
      refine (h.put hk _ ?_ ?_).count
      · dsimp only; rw [List.length_append]; push_cast; omega
      · have := used_put h.sort n ((fileS D n).1 ++ b, (fileS D n).2)
        rw [hg] at this
        simp only [Option.getD_some, List.length_append] at this
        omega
theorem DOk.sync {D : DP} {k : Nat} (h : DOk D k) (n : Int) : DOk (syncS D n).1 k := by
  unfold syncS
  split
  · exact h
  · rename_i h1
    obtain ⟨_, hg, hk⟩ := ask_some (by simpa using h1)
    refine (h.put hk _ ?_ ?_).count
    · dsimp only; omega
    · have := used_put h.sort n ((fileS D n).1, ((fileS D n).1.length : Int))
      rw [hg] at this
      simp only [Option.getD_some] at this
      have := h.room
      omega
theorem DOk.drop {D : DP} {k : Nat} (h : DOk D k) (n : Int) : DOk (dropD D n).1 k := by
  unfold dropD
  split
  · exact h
  · refine DOk.count ⟨h.sort.without n, fun m hm => h.key m ?_, h.last, Nat.le_trans (List.length_filter_le _ _) h.len, fun x hx => h.sure x (List.mem_filter.1 hx).1, ?_, h.left⟩
    · obtain ⟨x, hx, rfl⟩ := List.mem_map.1 hm
      exact List.mem_map.2 ⟨x, (List.mem_filter.1 hx).1, rfl⟩
    · have := used_without D.L n
      have := h.room
      dsimp only
      omega
theorem DOk.stop {D : DP} {k : Nat} (h : DOk D k) (n : Int) (hn : n < 9223372036854775808) : DOk (stopS D n) k := by
  unfold stopS
  split
  · exact h
  · exact ⟨h.sort, h.key, h.last, h.len, h.sure, h.room, by dsimp only; omega⟩
theorem many_bd {D : DP} {k : Nat} (h : DOk D k) (kept : List (Int × Int)) {x : Int × FP} (hx : x ∈ D.L) : 0 ≤ manyS kept x.1 x.2 ∧ x.2.2 ≤ manyS kept x.1 x.2 ∧ manyS kept x.1 x.2 ≤ (x.2.1.length : Int) := by
  have := h.sure x hx
  unfold manyS
  split
  · omega
  · omega
theorem crash_keys (kept : List (Int × Int)) (L : List (Int × FP)) : keysZ (L.map (crashF kept)) = keysZ L := by
  simp [keysZ, crashF, Function.comp_def]
theorem DOk.crash {D : DP} {k : Nat} (h : DOk D k) (kept : List (Int × Int)) : DOk (crashS D kept) k := by
  refine ⟨?_, ?_, h.last, by simpa [crashS] using h.len, ?_, ?_, by simp [crashS]⟩
  · unfold SortZ crashS
    rw [crash_keys]
    exact h.sort
  · intro n hn
    unfold crashS at hn
    rw [crash_keys] at hn
    exact h.key n hn
  · intro x hx
    obtain ⟨y, hy, rfl⟩ := List.mem_map.1 hx
    have := many_bd h kept hy
    unfold crashF
    dsimp only
    rw [List.length_take]
    omega
  · have : ∀ (l : List (Int × FP)), usedS (l.map (crashF kept)) ≤ usedS l := by
      intro l
      induction l with
      | nil => simp [usedS]
      | cons y l ih =>
        simp only [usedS, List.map_cons, List.sum_cons] at ih ⊢
        have h2 : (crashF kept y).2.1.length ≤ y.2.1.length := by
          unfold crashF
          dsimp only
          rw [List.length_take]
          omega
        omega
    have h1 := this D.L
    have := h.room
    show (usedS (D.L.map (crashF kept)) : Int) ≤ D.room ∧ D.room ≤ 1048576
    omega
end Go.Proofs.Ytmdbfhfjaapeoaa

/-
  DERIVED: THE SHELF's CONTRACTS AT THIS DUMP, IN PLAIN WORDS (tools/lay-plain.mjs out of 'TryLays.lean', which tools/lay-shelf.mjs wrote): THE SAME DECLARATIONS UNDER THE SAME NAMES: 'import', 'namespace', 'open', 'def', 'theorem' AND NOTHING ELSE: no command of the shelf's: FOR A HAND-IN. Each laying: the table of numbers ('.._ren') and one theorem, a field a fact of the dump's own or the kernel's comparison; each contract: ONE APPLICATION.
-/
namespace Go.Proofs
open Go.Shelf
def Try.keysM_ren : Go.Shelf.Ren := ⟨fun | 7 => 43 | 10 => 52 | n => n, fun | 23 => 50 | 26 => 3 | 3 => 65 | 28 => 87 | 0 => 0 | 27 => 86 | 33 => 97 | 4 => 4 | n => n, fun | n => n⟩
theorem Try.keysM : Go.Proofs.SlLaysZI.n7 Try.prog Try.keysM_ren := {
  mixed := by kernel_rfl
  f7 := ⟨Try.f43.name, by decide, Try.func43.trans (congrArg some (by kernel_rfl))⟩
  f10 := ⟨Try.f52.name, by decide, Try.func52.trans (congrArg some (by kernel_rfl))⟩
  t0 := Try.underlying0
  a0 := Try.isAgg0
  z0 := Try.sizeOf0
  v0 := Try.zeroValue0
  t4 := Try.underlying4
  a4 := Try.isAgg4
  z4 := Try.sizeOf4
  v4 := Try.zeroValue4
  t23 := Try.underlying50
  a23 := Try.isAgg50
  z23 := Try.sizeOf50
  v23 := Try.zeroValue50
  t26 := Try.underlying3
  a26 := Try.isAgg3
  z26 := Try.sizeOf3
  v26 := Try.zeroValue3
  t27 := Try.underlying86
  a27 := Try.isAgg86
  z27 := Try.sizeOf86
  v27 := Try.zeroValue86
  t28 := Try.underlying87
  a28 := Try.isAgg87
  z28 := Try.sizeOf87
  v28 := Try.zeroValue87
  t33 := Try.underlying97
  a33 := Try.isAgg97
  z33 := Try.sizeOf97
  v33 := Try.zeroValue97 }
def Try.sortedM_ren : Go.Shelf.Ren := ⟨fun | 6 => 42 | 8 => 50 | 9 => 51 | 11 => 53 | 13 => 55 | 12 => 54 | 23 => 65 | 24 => 66 | 14 => 56 | 15 => 57 | 16 => 58 | 17 => 59 | 18 => 60 | 19 => 61 | 20 => 62 | 21 => 63 | 22 => 64 | 25 => 67 | 26 => 68 | 27 => 69 | 28 => 70 | 29 => 71 | 30 => 72 | 31 => 73 | n => n, fun | 26 => 3 | 28 => 87 | 24 => 57 | 0 => 0 | 3 => 3 | 37 => 101 | 48 => 112 | 50 => 114 | 4 => 4 | 40 => 104 | 39 => 103 | 45 => 109 | 5 => 5 | 9 => 9 | 51 => 115 | 55 => 119 | 57 => 121 | 58 => 122 | 33 => 97 | n => n, fun | n => n⟩
theorem Try.sortedM : Go.Proofs.SlLaysZI.n6 Try.prog Try.sortedM_ren := {
  mixed := by kernel_rfl
  f6 := ⟨Try.f42.name, by decide, Try.func42.trans (congrArg some (by kernel_rfl))⟩
  f8 := ⟨Try.f50.name, by decide, Try.func50.trans (congrArg some (by kernel_rfl))⟩
  f11 := ⟨Try.f53.name, by decide, Try.func53.trans (congrArg some (by kernel_rfl))⟩
  t0 := Try.underlying0
  a0 := Try.isAgg0
  z0 := Try.sizeOf0
  v0 := Try.zeroValue0
  t24 := Try.underlying57
  a24 := Try.isAgg57
  z24 := Try.sizeOf57
  v24 := Try.zeroValue57
  t26 := Try.underlying3
  a26 := Try.isAgg3
  z26 := Try.sizeOf3
  v26 := Try.zeroValue3
  t28 := Try.underlying87
  a28 := Try.isAgg87
  z28 := Try.sizeOf87
  v28 := Try.zeroValue87
  i26 := by kernel_rfl }
def Try.sortM_ren : Go.Shelf.Ren := ⟨fun | 5 => 51 | 8 => 55 | 7 => 54 | 19 => 65 | 20 => 66 | 10 => 56 | 11 => 57 | 12 => 58 | 13 => 59 | 14 => 60 | 15 => 61 | 16 => 62 | 17 => 63 | 18 => 64 | 30 => 67 | 31 => 68 | 32 => 69 | 33 => 70 | 34 => 71 | 35 => 72 | 40 => 73 | n => n, fun | 23 => 57 | 25 => 3 | 3 => 3 | 32 => 101 | 22 => 57 | 0 => 0 | 44 => 112 | 46 => 114 | 4 => 4 | 36 => 104 | 35 => 103 | 41 => 109 | 5 => 5 | 9 => 9 | 53 => 115 | 57 => 119 | 63 => 121 | 64 => 122 | n => n, fun | n => n⟩
theorem Try.sortM : Go.Proofs.SlLaysM.n5 Try.prog Try.sortM_ren := {
  mixed := by kernel_rfl
  f5 := ⟨Try.f51.name, by decide, Try.func51.trans (congrArg some (by kernel_rfl))⟩
  f7 := ⟨Try.f54.name, by decide, Try.func54.trans (congrArg some (by kernel_rfl))⟩
  f8 := Try.func55.trans (congrArg some (by kernel_rfl))
  f10 := ⟨Try.f56.name, by decide, Try.func56.trans (congrArg some (by kernel_rfl))⟩
  f11 := ⟨Try.f57.name, by decide, Try.func57.trans (congrArg some (by kernel_rfl))⟩
  f12 := ⟨Try.f58.name, by decide, Try.func58.trans (congrArg some (by kernel_rfl))⟩
  f13 := ⟨Try.f59.name, by decide, Try.func59.trans (congrArg some (by kernel_rfl))⟩
  f14 := ⟨Try.f60.name, by decide, Try.func60.trans (congrArg some (by kernel_rfl))⟩
  f15 := ⟨Try.f61.name, by decide, Try.func61.trans (congrArg some (by kernel_rfl))⟩
  f16 := ⟨Try.f62.name, by decide, Try.func62.trans (congrArg some (by kernel_rfl))⟩
  f17 := ⟨Try.f63.name, by decide, Try.func63.trans (congrArg some (by kernel_rfl))⟩
  f18 := ⟨Try.f64.name, by decide, Try.func64.trans (congrArg some (by kernel_rfl))⟩
  f19 := Try.func65.trans (congrArg some (by kernel_rfl))
  f20 := Try.func66.trans (congrArg some (by kernel_rfl))
  f30 := ⟨Try.f67.name, by decide, Try.func67.trans (congrArg some (by kernel_rfl))⟩
  f31 := Try.func68.trans (congrArg some (by kernel_rfl))
  f32 := Try.func69.trans (congrArg some (by kernel_rfl))
  f33 := ⟨Try.f70.name, by decide, Try.func70.trans (congrArg some (by kernel_rfl))⟩
  f34 := ⟨Try.f71.name, by decide, Try.func71.trans (congrArg some (by kernel_rfl))⟩
  f35 := ⟨Try.f72.name, by decide, Try.func72.trans (congrArg some (by kernel_rfl))⟩
  f40 := ⟨Try.f73.name, by decide, Try.func73.trans (congrArg some (by kernel_rfl))⟩
  t0 := Try.underlying0
  a0 := Try.isAgg0
  z0 := Try.sizeOf0
  v0 := Try.zeroValue0
  t3 := Try.underlying3
  a3 := Try.isAgg3
  z3 := Try.sizeOf3
  v3 := Try.zeroValue3
  t4 := Try.underlying4
  a4 := Try.isAgg4
  z4 := Try.sizeOf4
  v4 := Try.zeroValue4
  t5 := Try.underlying5
  a5 := Try.isAgg5
  z5 := Try.sizeOf5
  v5 := Try.zeroValue5
  t9 := Try.underlying9
  a9 := Try.isAgg9
  z9 := Try.sizeOf9
  v9 := Try.zeroValue9
  t22 := Try.underlying57
  a22 := Try.isAgg57
  z22 := Try.sizeOf57
  v22 := Try.zeroValue57
  t23 := Try.underlying57
  a23 := Try.isAgg57
  z23 := Try.sizeOf57
  v23 := Try.zeroValue57
  t25 := Try.underlying3
  a25 := Try.isAgg3
  z25 := Try.sizeOf3
  v25 := Try.zeroValue3
  t32 := Try.underlying101
  a32 := Try.isAgg101
  z32 := Try.sizeOf101
  v32 := Try.zeroValue101
  t35 := Try.underlying103
  a35 := Try.isAgg103
  z35 := Try.sizeOf103
  v35 := Try.zeroValue103
  t36 := Try.underlying104
  a36 := Try.isAgg104
  z36 := Try.sizeOf104
  v36 := Try.zeroValue104
  t41 := Try.underlying109
  a41 := Try.isAgg109
  z41 := Try.sizeOf109
  v41 := Try.zeroValue109
  t44 := Try.underlying112
  a44 := Try.isAgg112
  z44 := Try.sizeOf112
  v44 := Try.zeroValue112
  t46 := Try.underlying114
  a46 := Try.isAgg114
  z46 := Try.sizeOf114
  v46 := Try.zeroValue114
  t53 := Try.underlying115
  a53 := Try.isAgg115
  z53 := Try.sizeOf115
  v53 := Try.zeroValue115
  t57 := Try.underlying119
  a57 := Try.isAgg119
  z57 := Try.sizeOf119
  v57 := Try.zeroValue119
  t63 := Try.underlying121
  a63 := Try.isAgg121
  z63 := Try.sizeOf121
  v63 := Try.zeroValue121
  t64 := Try.underlying122
  a64 := Try.isAgg122
  z64 := Try.sizeOf122
  v64 := Try.zeroValue122 }
def Try.cloneM_ren : Go.Shelf.Ren := ⟨fun | 5 => 40 | 7 => 49 | n => n, fun | 23 => 50 | 25 => 3 | 3 => 65 | 4 => 4 | 20 => 20 | n => n, fun | n => n⟩
theorem Try.cloneM : Go.Proofs.SlLaysW.n5 Try.prog Try.cloneM_ren := {
  mixed := by kernel_rfl
  f5 := ⟨Try.f40.name, by decide, Try.func40.trans (congrArg some (by kernel_rfl))⟩
  f7 := Try.func49.trans (congrArg some (by kernel_rfl))
  t4 := Try.underlying4
  a4 := Try.isAgg4
  z4 := Try.sizeOf4
  v4 := Try.zeroValue4
  t20 := Try.underlying20
  a20 := Try.isAgg20
  z20 := Try.sizeOf20
  v20 := Try.zeroValue20
  t23 := Try.underlying50
  a23 := Try.isAgg50
  z23 := Try.sizeOf50
  v23 := Try.zeroValue50 }
end Go.Proofs
