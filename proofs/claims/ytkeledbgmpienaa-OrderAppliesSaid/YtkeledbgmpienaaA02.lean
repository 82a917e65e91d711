/- Small plain facts on numbers and worlds, no program. -/
import Derived.Test.YtkeledbgmpienaaA01
import Derived.Test.YtkeledbgmpienaaRows
import Derived.WalkKit
import Derived.WalkSpells
import Derived.WalkLawsBesides
import Derived.ProofKit
import Derived.Lib.Hide
import Derived.Deep.QuietTactic
import Derived.BigQuiet
import Derived.Laws.BitsAllLaws
import Derived.Lib.IndexLaws
import Derived.Outline
import Derived.IntWalk
import Derived.RangeFuncNested
import Derived.RangeFuncBound
import Derived.RangeFuncCalls
import Derived.RangeFuncLeaves
import Derived.Shelf.RegionOpen
import Derived.OwnWalkIn
import Derived.TacticsInMore
import Derived.LoopNIn
import Derived.LoopIn
import Derived.LoopTactic
import Derived.SizedLaws
import Derived.Lib.SmallJoins
import Derived.Deep.Slices
import Derived.Deep.Fields
import Derived.Laws.OwnMore
import Derived.Maps.AppendAt
import Derived.Deep.AppendLies
import Derived.Deep.Draws
import Derived.RegionTactic
import Derived.OwnWalk

namespace Go.Proofs.Ytkeledbgmpienaa
open Go.RowKit Go.WideShapes Go.ChangeShapes

theorem Try.own : ownKnob Try.prog.godebug = none := by kernel_rfl
theorem Try.laidOut : laidOutB Try.prog = true := by kernel_rfl

section
variable {H : Type} {enc : TypeId × Value → H} {P : Program}
/-- The row's last step, where all that was there before the call is as it was. -/
theorem post_below {f : Func} {s : ChangeSpec} {apart fresh handsOn again : Bool} {W W' : World} {args : Array Value} {v : Value} {ds gs : List (DataW H)} {before pa pv : List MemPlace}
    (hW : DataW.Whole enc P f.params.toList s.vars apart W args.toList ds gs before)
    (hres : ∀ (b : Nat) (sp : Nat → Bool) (hd : Bool), DataW.TrodAll enc P W' b sp hd f.resultTypes.toList (v.resultList f.resultTypes.size) (s.fn H (ds ++ gs)).results [])
    (hargs : ∀ sp : Nat → Bool, (∀ p ∈ before, sp p.block = true) → DataW.TrodAll enc P W' 0 sp true f.params.toList args.toList (s.fn H (ds ++ gs)).args pa)
    (hvars : ∀ sp : Nat → Bool, (∀ p ∈ before, sp p.block = true) → DataW.TrodVars enc P W' sp s.vars (s.fn H (ds ++ gs)).vars pv)
    (hps : before = pa ++ pv) (hb : Below W.heap.size W W')
    (hok : ∀ (j : Nat) (t : TypeId) (r : Value), f.resultTypes[j]? = some t → (v.resultList f.resultTypes.size)[j]? = some r → Value.okWide P W' .any 0 t r) :
    s.post enc P f apart fresh handsOn again W args v W' := by
  have hlt : ∀ p ∈ before, p.block < W.heap.size := fun p hp => hW.lt p hp
  have hold : ∀ p ∈ before, (fun b => decide (b < W.heap.size)) p.block = true := fun p hp => by simpa using hlt p hp
  refine ⟨ds, gs, before, [], pa, pv, hW, hres _ _ _, hargs _ hold, hvars _ hold, World.keptBut_mono (fun p hp => ⟨hp, ?_⟩) (hb.frame (· ∈ before)), fun _ => ?_⟩
  · rw [hps, List.mem_append] at hp
    exact Or.inr hp
  · obtain ⟨_, _, _, _, _, hz, hn⟩ := hW
    refine ⟨hok, _, _, ([] ++ pa) ++ pv, ⟨[] ++ pa, pv, trodAll_append (hargs _ (fun _ _ => rfl)) (hres _ _ _), hvars _ (fun _ _ => rfl), rfl, ?_, ?_⟩, ?_⟩
    · intro b off hp
      have hin : MemPlace.cell b off ∈ before := by rw [hps]; simpa using hp
      rw [hb.frozen (hlt _ hin)]
      exact hz b off hin
    · intro ha
      have := hn ha
      rw [hps] at this
      simpa using this
    · intro p hp _
      rw [hps]
      simpa using hp
end

theorem u64_bd {n : Int} (h : (Lit.int .u64 n).wf = true) : 0 ≤ n ∧ n < 18446744073709551616 := by
  simp [Lit.wf, IntKind.min, IntKind.max, IntKind.bits, IntKind.signed] at h
  omega
theorem i64_bd {n : Int} (h : (Lit.int .i64 n).wf = true) : -9223372036854775808 ≤ n ∧ n < 9223372036854775808 := by
  simp [Lit.wf, IntKind.min, IntKind.max, IntKind.bits, IntKind.signed] at h
  omega
theorem u8_bd {n : Int} (h : (Lit.int .u8 n).wf = true) : 0 ≤ n ∧ n < 256 := by
  simp [Lit.wf, IntKind.min, IntKind.max, IntKind.bits, IntKind.signed] at h
  omega
theorem u32_bd {n : Int} (h : (Lit.int .u32 n).wf = true) : 0 ≤ n ∧ n < 4294967296 := by
  simp [Lit.wf, IntKind.min, IntKind.max, IntKind.bits, IntKind.signed] at h
  omega
/-- all old cells and marks read as they did -/
theorem bcell {W w1 : World} (hb : Below W.heap.size W w1) : (∀ b o, b < W.heap.size → w1.cell? ⟨b, o, none⟩ = W.cell? ⟨b, o, none⟩) ∧ (∀ b o, b < W.heap.size → w1.frozen? ⟨b, o, none⟩ = W.frozen? ⟨b, o, none⟩) :=
  ⟨fun b o h => hb.cell (p := ⟨b, o, none⟩) h, fun b o h => hb.frozen (p := ⟨b, o, none⟩) h⟩
theorem bthen {a b c : World} (h : Below a.heap.size a b) (k : Below b.heap.size b c) : Below a.heap.size a c := h.trans (k.mono h.size)
/-- what a region keeps whose calls only make memory -/
theorem keep_drew {a : World} : Below a.heap.size a a.drew ∧ (∀ b o, b < a.heap.size → a.drew.cell? ⟨b, o, none⟩ = a.cell? ⟨b, o, none⟩) :=
  ⟨(Below.refl _ _).drew, fun _ _ _ => rfl⟩
theorem keep_then {a b c : World} (h : Below a.heap.size a b) (k : Below b.heap.size b c) : Below a.heap.size a c ∧ (∀ x o, x < a.heap.size → c.cell? ⟨x, o, none⟩ = a.cell? ⟨x, o, none⟩) :=
  ⟨bthen h k, (bcell (bthen h k)).1⟩
theorem cellAt {a b : World} (h : Below a.heap.size a b) {x o : Nat} {u : Value} (hx : x < a.heap.size) (hu : a.cell? ⟨x, o, none⟩ = some u) : b.cell? ⟨x, o, none⟩ = some u :=
  (h.cell (p := ⟨x, o, none⟩) hx).trans hu
theorem ret_b {x y : Bool} (h : x = y) : Ending.returned (.bool x) = .returned (.bool y) := by rw [h]
theorem ret_i {k : IntKind} {x y : Int} (h : x = y) : Ending.returned (.int k x) = .returned (.int k y) := by rw [h]
theorem ret2ib {k : IntKind} {a b : Int} {x y : Bool} (h1 : a = b) (h : x = y) : Ending.returned (.tuple #[.int k a, .bool x]) = .returned (.tuple #[.int k b, .bool y]) := by rw [h1, h]
theorem ret3b {a b : Value} {x y : Bool} (h : x = y) : Ending.returned (.tuple #[a, b, .bool x]) = .returned (.tuple #[a, b, .bool y]) := by rw [h]
theorem ret2b {a : Value} {x y : Bool} (h : x = y) : Ending.returned (.tuple #[a, .bool x]) = .returned (.tuple #[a, .bool y]) := by rw [h]
end Go.Proofs.Ytkeledbgmpienaa

/- Texts as Go's strings: strings.Cut at a stroke, name.part. -/
namespace Go.Proofs.Ytkeledbgmpienaa
open Go.RowKit

/-- a text's bytes -/
abbrev tl (s : ByteArray) : List UInt8 := s.data.toList
theorem tl_head (s : ByteArray) (i : Nat) : tl (s.extract 0 i) = (tl s).take i := by simp [tl]
theorem tl_tail (s : ByteArray) (i : Nat) : tl (s.extract i s.size) = (tl s).drop i := by
  simp only [tl, ByteArray.data_extract, Array.toList_extract, List.extract_eq_take_drop]
  exact List.take_of_length_le (by simp)
theorem tl_len (s : ByteArray) : (tl s).length = s.size := by simp [tl]
theorem tl_inj {s t : ByteArray} (h : tl s = tl t) : s = t := by
  obtain ⟨⟨l⟩⟩ := s
  obtain ⟨⟨m⟩⟩ := t
  have : l = m := h
  rw [this]
/-- test's facts of two texts -/
theorem neq_yes {s t : ByteArray} (h : s = t) : (!s.toList == t.toList) = false := by subst h; simp
theorem neq_no {s t : ByteArray} (h : s ≠ t) : (!s.toList == t.toList) = true := by
  simp only [ByteArray.toList_eq, Bool.not_eq_true', beq_eq_false_iff_ne, ne_eq]
  exact fun e => h (tl_inj e)
theorem eq_yes {s t : ByteArray} (h : s = t) : (s.toList == t.toList) = true := by subst h; simp
theorem eq_no {s t : ByteArray} (h : s ≠ t) : (s.toList == t.toList) = false := by
  simp only [ByteArray.toList_eq, beq_eq_false_iff_ne, ne_eq]
  exact fun e => h (tl_inj e)
/-- nothing but draws -/
def Qt (w w' : World) : Prop := ∃ n, w' = w.drewN n
theorem Qt.refl (w : World) : Qt w w := ⟨0, rfl⟩
theorem Qt.trans {a b c : World} (h : Qt a b) (k : Qt b c) : Qt a c := by
  obtain ⟨n, rfl⟩ := h
  obtain ⟨m, rfl⟩ := k
  exact ⟨n + m, by rw [World.drewN_drewN]⟩
theorem Qt.below {a b : World} (h : Qt a b) : Below a.heap.size a b := by
  obtain ⟨n, rfl⟩ := h
  exact ⟨rfl, rfl, rfl, Nat.le_refl _, fun _ _ => rfl⟩

theorem liteCut_at (s : ByteArray) (i : Nat) (w : World) (h : Hid (Lib.indexByte (tl s) 47 = (i : Int))) (hi : i < s.size) (hs : s.size ≤ 9223372036854775807) :
    Calls Try.prog 55 #[.string s, .string ⟨#[47]⟩] w fun e w' => e = .returned (.tuple #[.string (s.extract 0 i), .string (s.extract (i + 1) s.size), .bool true]) ∧ Qt w w' := by
  have hw1 : IntKind.i64.wrap ((i : Int) + 1) = (i : Int) + 1 := IntWalk.i64_in _ (by omega)
  have b1 : (i : Int) ≤ (s.size : Int) := by omega
  have b2 : (0 : Int) ≤ (i : Int) + 1 := by omega
  have b3 : (i : Int) + 1 ≤ (s.size : Int) := by omega
  have b4 : ((i : Int) + 1).toNat = i + 1 := by omega
  go_enter Try.func55, Try.ntmps55
  go_wp2_with fail
  refine (Try.stringslite_Index_one s 47 w).mono ?_
  rw [h.out]
  rintro e w1 ⟨rfl, rfl⟩
  go_wp2_with fail
  go_quiet (fail)
  go_wp2_with fail
  go_ret3
  exact ⟨rfl, _, rfl⟩
theorem liteCut_none (s : ByteArray) (w : World) (h : Hid (Lib.indexByte (tl s) 47 = -1)) :
    Calls Try.prog 55 #[.string s, .string ⟨#[47]⟩] w fun e w' => e = .returned (.tuple #[.string s, .string ⟨#[]⟩, .bool false]) ∧ Qt w w' := by
  go_enter Try.func55, Try.ntmps55
  go_wp2_with fail
  refine (Try.stringslite_Index_one s 47 w).mono ?_
  rw [h.out]
  rintro e w1 ⟨rfl, rfl⟩
  go_wp2_with fail
  go_ret3
  exact ⟨rfl, Qt.refl _⟩
theorem strCut_at (s : ByteArray) (i : Nat) (w : World) (h : Hid (Lib.indexByte (tl s) 47 = (i : Int))) (hi : i < s.size) (hs : s.size ≤ 9223372036854775807) :
    Calls Try.prog 37 #[.string s, .string ⟨#[47]⟩] w fun e w' => e = .returned (.tuple #[.string (s.extract 0 i), .string (s.extract (i + 1) s.size), .bool true]) ∧ Qt w w' := by
  go_enter Try.func37, Try.ntmps37
  go_wp2_with fail
  refine (liteCut_at s i w h hi hs).mono ?_
  rintro e w1 ⟨rfl, n, rfl⟩
  go_wp2_with fail
  go_ret3
  exact ⟨rfl, _, rfl⟩
theorem strCut_none (s : ByteArray) (w : World) (h : Hid (Lib.indexByte (tl s) 47 = -1)) :
    Calls Try.prog 37 #[.string s, .string ⟨#[47]⟩] w fun e w' => e = .returned (.tuple #[.string s, .string ⟨#[]⟩, .bool false]) ∧ Qt w w' := by
  go_enter Try.func37, Try.ntmps37
  go_wp2_with fail
  refine (liteCut_none s w h).mono ?_
  rintro e w1 ⟨rfl, n, rfl⟩
  go_wp2_with fail
  go_ret3
  exact ⟨rfl, _, rfl⟩
/-- the two ways of it -/
theorem cut_ways (s : ByteArray) : (Lib.indexByte (tl s) 47 = -1 ∧ cutL (tl s) = [tl s]) ∨
    (∃ i : Nat, Lib.indexByte (tl s) 47 = (i : Int) ∧ i < s.size ∧ cutL (tl s) = tl (s.extract 0 i) :: cutL (tl (s.extract (i + 1) s.size))) := by
  have hg := Lib.indexByte_ge (tl s) 47
  rcases Int.lt_or_le (Lib.indexByte (tl s) 47) 0 with h | h
  · have h1 : Lib.indexByte (tl s) 47 = -1 := by omega
    refine .inl ⟨h1, cutL_none fun c hc => ?_⟩
    obtain ⟨k, hk, rfl⟩ := List.getElem_of_mem hc
    intro e
    exact Lib.indexByte_none h1 k (by rw [List.getElem?_eq_getElem hk, e])
  · obtain ⟨i, hi⟩ : ∃ i : Nat, Lib.indexByte (tl s) 47 = (i : Int) := ⟨_, (Int.toNat_of_nonneg h).symm⟩
    obtain ⟨h1, h2⟩ := Lib.indexByte_some hi
    have hlt : i < s.size := by have := (List.getElem?_eq_some_iff.1 h1).1; simpa using this
    refine .inr ⟨i, hi, hlt, ?_⟩
    rw [tl_head, tl_tail]
    refine cutL_at (fun c hc e => ?_) h1
    obtain ⟨k, hk, rfl⟩ := List.getElem_of_mem hc
    rw [List.getElem_take] at e
    have hk' : k < i := by rw [List.length_take] at hk; omega
    exact h2 k hk' (by rw [← e, List.getElem?_eq_getElem])

theorem index_contains (l : List UInt8) (c : UInt8) : decide (Lib.indexByte l c < 0) = !l.contains c := by
  have hg := Lib.indexByte_ge l c
  by_cases h : Lib.indexByte l c < 0
  · have h1 := Lib.indexByte_none (show Lib.indexByte l c = -1 by omega)
    rw [decide_eq_true h, eq_comm]
    simp only [Bool.not_eq_true', List.contains_eq_mem, decide_eq_false_iff_not]
    intro hc
    obtain ⟨k, hk, e⟩ := List.getElem_of_mem hc
    exact h1 k (by rw [List.getElem?_eq_getElem hk, e])
  · obtain ⟨i, hi⟩ : ∃ i : Nat, Lib.indexByte l c = (i : Int) := ⟨_, (Int.toNat_of_nonneg (by omega)).symm⟩
    have h1 := (Lib.indexByte_some hi).1
    rw [decide_eq_false h, eq_comm]
    simp only [Bool.not_eq_false', List.contains_eq_mem, decide_eq_true_eq]
    exact List.mem_of_getElem? h1
theorem part_any (s : ByteArray) (w : World) : Calls Try.prog 73 #[.string s] w fun e w' => e = .returned (.bool (partB (tl s))) ∧ w = w' := by
  obtain ⟨a, ha⟩ : ∃ a, s.data.toList = a := ⟨_, rfl⟩
  have HI := Lib.hid (index_contains a 0)
  have HL := Lib.hid (show a.length = s.size by rw [← ha]; exact tl_len s)
  have EA := Lib.hid (show s.toList = a by rw [ByteArray.toList_eq, ha])
  have HX := Try.strings_IndexByte s 0 w
  rw [ha] at HX
  rw [show tl s = a from ha]
  clear ha
  go_enter Try.func73, Try.ntmps73
  go_wp2_with (first | (go_at_call 85; refine HX.mono ?_; rintro e w1 ⟨rfl, rfl⟩))
  all_goals
    go_ret
    refine ⟨ret_b ?_, rfl⟩
    simp only [EA.out] at *
    have h1 := HI.out
    have h2 := HL.out
    clear HI HL HX
    unfold partB
    simp_all
    all_goals first
      | (intro hx; omega)
      | (rw [decide_eq_true (by omega : s.size ≤ 24)]; simp)
end Go.Proofs.Ytkeledbgmpienaa

/- A range over an iterator that keeps its state in one captured variable (a cell of block Bn): what the caller owes. No program. -/
namespace Go.Proofs.Ytkeledbgmpienaa
open Go.RowKit

/-- J stays where block Bn turns, and where blocks are laid -/
def Bends {α : Type} (Bn : Nat) (J : List α → World → Prop) : Prop := ∀ s A B, J s A → A.grownBy B (some Bn) → J s B
/-- what the function g does when it is called with a yield: it yields all of xs, or till one round says no more -/
def Yields {α : Type} (P : Program) (g : Nat) (lb : Array Value) (Bn : Nat) (enc : α → Value) (xs : List α) (W : World) : Prop :=
  ∀ (l : Nat) (J Jx : List α → World → Prop), Bends Bn J → Bends Bn Jx →
    (∀ pre x W1, J pre W1 → pre ++ [x] <+: xs → YieldAt Fence.wide 0 P l #[enc x] W1 fun e W2 =>
      (e = .returned (.bool true) ∧ J (pre ++ [x]) W2 ∧ W2.heap[Bn]? = W1.heap[Bn]?) ∨ (e = .returned (.bool false) ∧ Jx (pre ++ [x]) W2)) →
    J [] W → CallsIn Fence.wide 1 P g (#[.func (.yield l) #[] #[]] ++ lb) W fun e W2 => (∃ v, e = .returned v) ∧ (J xs W2 ∨ ∃ pre, pre <+: xs ∧ Jx pre W2)
/-- blocks of the loop's own book and the captured variable's lie as they lay -/
def Kept (Bn D : Nat) (W W' : World) : Prop := ∀ k, k = Bn ∨ k = D ∨ k = D + 1 → W'.heap[k]? = W.heap[k]?
/-- how a round may be left -/
def roundP {α : Type} (Bn D : Nat) (I Ix : List α → World → Prop) (xs : List α) (W : World) : Exit → Act → World → Prop
  | .normal, _, W' => Kept Bn D W W' ∧ I xs W'
  | .ret, _, W' => Kept Bn D W W' ∧ Ix xs W'
  | _, _, _ => False
/-- what an invariant of the caller's must stand -/
def Stands {α : Type} (Bn D : Nat) (I : List α → World → Prop) : Prop :=
  ∀ s A B r, I s A → A.grownBy B (some r) → r = Bn ∨ (D ≤ r ∧ ∃ o : Obj, A.heap[r]? = some o ∧ o.isCells = false) → I s B

theorem Stands.alloc {α : Type} {Bn D : Nat} {I : List α → World → Prop} (h : Stands Bn D I) {s : List α} {W : World} (o : Obj) (hs : I s W) : I s (W.alloc o) :=
  h s W _ Bn hs (World.grownBy_alloc W o _) (.inl rfl)
theorem Stands.put {α : Type} {Bn D : Nat} {I : List α → World → Prop} (h : Stands Bn D I) {s : List α} {W : World} {l : Nat} {o : Obj} (o' : Obj) (hs : I s W) (hD : D ≤ l) (hl : W.heap[l]? = some o) (ho : o.isCells = false) : I s (W.putObj l o') :=
  h s W _ l hs (grownBy_putObj' W l o') (.inr ⟨hD, o, hl, ho⟩)

theorem wp_rangeCell {α : Type} {P : Program} {g : Operand} {p : Tmp} {assign body : Code} {Q : Exit → Act → World → Prop} {a : Act} {w : World} {gf : Nat} {lb : Array Value} (hg : a.eval g = .func (.func gf) #[] lb)
    (eg : ∀ args w, (callFunc gf args).run P w = .ok (.enter gf args) w) {enc : α → Value} {xs : List α} {Bn : Nat} (hBn : Bn < w.heap.size) (hit : ∀ W, W.heap[Bn]? = w.heap[Bn]? → Yields P gf lb Bn enc xs W)
    (I Ix : List α → World → Prop) (hI : Stands Bn w.heap.size I) (hIx : Stands Bn w.heap.size Ix) (h0 : I [] w) (a₁ : α → Act)
    (hassign : ∀ (l : Nat) (x : α) (W : World) (K : Act → World → Prop), K (a₁ x) W →
      assign.wpIn (Fence.wide.inRound l) 0 P (Exit.then K (fun _ _ _ => False)) { tmps := (#[p].zip #[enc x]).foldl (fun t (p, v) => t.setIfInBounds p v) a.tmps, defers := [] } W)
    (hbody : ∀ (l : Nat) (pre : List α) (x : α) (W : World), I pre W → pre ++ [x] <+: xs → w.heap.size + 2 ≤ W.heap.size → body.wpIn (Fence.wide.inRound l) 0 P (roundP Bn w.heap.size I Ix (pre ++ [x]) W) (a₁ x) W)
    (hdone : ∀ W, I xs W → W.heap[w.heap.size]? = some (.deferred (some [])) → Q .normal { a with defers := { target := .collected w.heap.size, args := #[] } :: a.defers } W)
    (hstop : ∀ pre W, pre <+: xs → Ix pre W → W.heap[w.heap.size]? = some (.deferred (some [])) → Code.ret.wpIn Fence.wide 2 P Q { a with defers := { target := .collected w.heap.size, args := #[] } :: a.defers } W) :
    (Code.rangeFunc g #[p] assign body).wpIn Fence.wide 2 P Q a w := by
  refine wpIn_rangeFunc fun fn _ => ?_
  -- the loop's record, in any state; the world behind the two new blocks
  let rec_ : LoopState → Option Code → Obj := fun st pe => .loop { state := st, pending := pe, fn, tmps := a.tmps, params := #[p], assign, body, defers := w.heap.size }
  obtain ⟨V, hV⟩ : ∃ V, (w.alloc (.deferred (some []))).alloc (rec_ .ready none) = V := ⟨_, rfl⟩
  have v1 : V.heap[w.heap.size + 1]? = some (rec_ .ready none) := by
    rw [← hV]; have := World.alloc_heap_new (w.alloc (.deferred (some []))) (rec_ .ready none); rwa [World.size_alloc] at this
  have v0 : V.heap[w.heap.size]? = some (.deferred (some [])) := by
    rw [← hV]; exact (Below.heap_alloc _ _ _ (by simp)).trans (World.alloc_heap_new w _)
  have vB : V.heap[Bn]? = w.heap[Bn]? := by
    rw [← hV]; exact (Below.heap_alloc _ _ _ (by simp; omega)).trans (Below.heap_alloc _ _ _ hBn)
  have vI : I [] V := by rw [← hV]; exact hI.alloc _ (hI.alloc _ h0)
  refine ⟨w.heap.size + 1, [{ target := .collected w.heap.size, args := #[] }], V, { target := .fn (.func gf) lb, args := #[.func (.yield (w.heap.size + 1)) #[] #[]] }, V, gf,
    #[.func (.yield (w.heap.size + 1)) #[] #[]] ++ lb, V, ?_, ?_, fun _ _ => trivial, ?_, (fun _ => by omega), ?_⟩
  · rw [← hV]; exact run_enterLoop_outer _ _ _ _ _
  · simp only [resolve, hg]
    simp [go_sem]
  · simp [invoke, go_sem, eg]
  -- J, Jx: the caller's, and the book
  have turn : ∀ {A B : World} {k : Nat}, A.grownBy B (some Bn) → k ≠ Bn → ∀ {o : Obj}, A.heap[k]? = some o → B.heap[k]? = some o := fun hgr hk _ ho =>
    (hgr.block _ (Array.getElem?_eq_some_iff.1 ho).1 (fun e => hk (by cases e; rfl))).trans ho
  refine (hit V vB (w.heap.size + 1)
    (fun pre W => I pre W ∧ W.heap[w.heap.size + 1]? = some (rec_ .ready none) ∧ W.heap[w.heap.size]? = some (.deferred (some [])))
    (fun pre W => Ix pre W ∧ W.heap[w.heap.size + 1]? = some (rec_ .done (some .ret)) ∧ W.heap[w.heap.size]? = some (.deferred (some [])))
    (fun s A B h hgr => ⟨hI s A B Bn h.1 hgr (.inl rfl), turn hgr (by omega) h.2.1, turn hgr (by omega) h.2.2⟩)
    (fun s A B h hgr => ⟨hIx s A B Bn h.1 hgr (.inl rfl), turn hgr (by omega) h.2.1, turn hgr (by omega) h.2.2⟩) ?_ ⟨vI, v1, v0⟩).mono ?_
  · rintro pre x W ⟨hi, hl, hk⟩ hpre
    have hlt : w.heap.size + 1 < W.heap.size := (Array.getElem?_eq_some_iff.1 hl).1
    refine ⟨fn, _, assign, body, run_yield (P := P) (args := #[enc x]) hl rfl, roundIn_of_wpIn trivial (hassign _ x W _ ?_)⟩
    refine ⟨_, run_beginRound hl rfl, ?_⟩
    obtain ⟨U, hU⟩ : ∃ U, W.putObj (w.heap.size + 1) (rec_ .busy none) = U := ⟨_, rfl⟩
    have u1 : U.heap[w.heap.size + 1]? = some (rec_ .busy none) := by rw [← hU]; exact World.putObj_heap_same hlt
    have u0 : U.heap[w.heap.size]? = some (.deferred (some [])) := by rw [← hU]; exact (World.putObj_heap_other (by omega)).trans hk
    have uB : U.heap[Bn]? = W.heap[Bn]? := by rw [← hU]; exact World.putObj_heap_other (by omega)
    have uI : I pre U := by rw [← hU]; exact hI.put _ hi (by omega) hl rfl
    show body.wpIn _ _ _ _ _ (W.putObj (w.heap.size + 1) (rec_ .busy none))
    rw [hU]
    refine wpIn_mono (hbody _ pre x U uI hpre (Array.getElem?_eq_some_iff.1 u1).1) ?_
    rintro e a3 W3 hp
    cases e with
    | normal =>
      obtain ⟨hkp, hi3⟩ := hp
      have l3 : W3.heap[w.heap.size + 1]? = some (rec_ .busy none) := (hkp _ (.inr (.inr rfl))).trans u1
      refine ⟨_, _, run_endRound (P := P) none l3, .inl ⟨rfl, ⟨hI.put _ hi3 (by omega) l3 rfl, World.putObj_heap_same (Array.getElem?_eq_some_iff.1 l3).1, ?_⟩, ?_⟩⟩
      · exact (World.putObj_heap_other (by omega)).trans ((hkp _ (.inr (.inl rfl))).trans u0)
      · exact (World.putObj_heap_other (by omega)).trans ((hkp _ (.inl rfl)).trans uB)
    | ret =>
      obtain ⟨hkp, hi3⟩ := hp
      have l3 : W3.heap[w.heap.size + 1]? = some (rec_ .busy none) := (hkp _ (.inr (.inr rfl))).trans u1
      refine ⟨_, _, run_endRound (P := P) (some .ret) l3, .inr ⟨rfl, hIx.put _ hi3 (by omega) l3 rfl, World.putObj_heap_same (Array.getElem?_eq_some_iff.1 l3).1, ?_⟩⟩
      exact (World.putObj_heap_other (by omega)).trans ((hkp _ (.inr (.inl rfl))).trans u0)
    | exit id => exact hp.elim
    | goto t => exact hp.elim
    | panic ch => exact hp.elim
    | outgrown => exact hp.elim
  · rintro e W2 ⟨⟨v, rfl⟩, ⟨hi, hl, hk⟩ | ⟨pre, hpre, hi, hl, hk⟩⟩
    · exact ⟨none, _, run_endLoop (P := P) hl (fun e => by cases e), hdone _ (hI.put _ hi (by omega) hl rfl) ((World.putObj_heap_other (by omega)).trans hk)⟩
    · exact ⟨some .ret, _, run_endLoop (P := P) hl (fun e => by cases e), hstop pre _ hpre (hIx.put _ hi (by omega) hl rfl) ((World.putObj_heap_other (by omega)).trans hk)⟩
end Go.Proofs.Ytkeledbgmpienaa

/- name.parts: its iterator. -/
namespace Go.Proofs.Ytkeledbgmpienaa
open Go.RowKit

attribute [local go_sem] Oper.semAt_some

/-- a text as a value -/
def stv (l : List UInt8) : Value := .string ⟨⟨l⟩⟩
theorem stv_tl (s : ByteArray) : stv (tl s) = .string s := rfl
noncomputable def sizeAt (W : World) (b : Nat) : Nat := match W.cell? ⟨b, 0, none⟩ with | some (.string t) => t.size | _ => 0
theorem sizeAt_boxed {W : World} {b : Nat} {t : TypeId} {s : ByteArray} (h : Boxed W b t (.string s)) : sizeAt W b = s.size := by unfold sizeAt; rw [h.cell]
theorem grown_turn (W : World) (n b : Nat) (v : Value) : W.grownBy ((W.drewN n).setCell ⟨b, 0, none⟩ v) (some b) :=
  let h := grownBy_setCell' (W.drewN n) b v
  ⟨h.os, h.tape, h.output, h.size, h.block⟩
theorem pre_snoc {α : Type} {pre xs : List α} {y : α} {ys : List α} (h : xs = pre ++ y :: ys) : pre ++ [y] <+: xs := ⟨ys, by rw [h]; simp⟩
theorem boxed_eq {A B : World} {b : Nat} {t : TypeId} {v : Value} (h : Boxed A b t v) (e : B.heap[b]? = A.heap[b]?) : Boxed B b t v := e.trans h

set_option maxHeartbeats 1000000 in
theorem parts_yields (s : ByteArray) (hs : s.size ≤ 9223372036854775807) (Bn : Nat) (W : World) (hb : Boxed W Bn 9 (.string s)) :
    Yields Try.prog 84 #[.pointer (some ⟨Bn, 0, none⟩)] Bn stv (cutL (tl s)) W := by
  intro l J Jx hJ hJx hY h0
  refine callsIn_of_wp Try.func84 rfl trivial ?_ rfl
  simp only [Try.ntmps84, List.size_toArray, List.length_cons, List.length_nil, Nat.reduceAdd, Nat.reduceSub, Array.replicate_succ, Array.replicate_zero, List.push_toArray, List.append_toArray, List.nil_append, List.cons_append]
  gi_wp2
  gi_loopw [3] (fun m wr => (∃ (pre : List (List UInt8)) (t : ByteArray), m = .bool true ∧ cutL (tl s) = pre ++ cutL (tl t) ∧ t.size ≤ s.size ∧ Boxed wr Bn 9 (.string t) ∧ J pre wr) ∨ (m = .bool false ∧ J (cutL (tl s)) wr)) (fun m wr => match m with | .bool true => sizeAt wr Bn + 1 | _ => 0)
  case atStart => exact .inl ⟨[], s, rfl, rfl, Nat.le_refl _, hb, h0⟩
  case round =>
    rcases hrel with ⟨pre, t, rfl, hcut, ht, hbx, hJp⟩ | ⟨rfl, hJp⟩
    · have hc := hbx.cell
      have hf := hbx.frozen
      rcases cut_ways t with ⟨hi, hx⟩ | ⟨i, hi, hit, hx⟩
      · have HI := Lib.hid hi
        have HC := Lib.hid (hcut.trans (by rw [hx]))
        clear hi hx hcut
        gi_wp2_with (refine ⟨trivial, ?_⟩; gi_at_call 37; refine (callsIn_wide.2 (strCut_none t _ HI)).mono ?_; rintro e w1 ⟨rfl, n, rfl⟩; obtain ⟨fn, tmps, assign, body, hy, hR⟩ := hY pre (tl t) _ (hJ _ _ _ hJp (grown_turn wr n Bn (.string ⟨#[]⟩))) (pre_snoc HC.out); rw [stv_tl] at hy)
        refine hR.mono ?_
        rintro e W3 (⟨rfl, hJ3, hk3⟩ | ⟨rfl, hJx3⟩)
        · gi_wp2
          go_roundw
          case rel => exact .inr ⟨rfl, by rw [HC.out]; exact hJ3⟩
          case measure => exact Nat.succ_pos _
        · gi_wp2
          refine bodyPost_ret (results_none rfl _ _ _) rfl ?_
          exact ⟨⟨_, rfl⟩, .inr ⟨_, pre_snoc HC.out, hJx3⟩⟩
      · have HI := Lib.hid hi
        have HC := Lib.hid (hcut.trans (by rw [hx]))
        clear hi hx hcut
        gi_wp2_with (refine ⟨trivial, ?_⟩; gi_at_call 37; refine (callsIn_wide.2 (strCut_at t i _ HI hit (by omega))).mono ?_; rintro e w1 ⟨rfl, n, rfl⟩; obtain ⟨fn, tmps, assign, body, hy, hR⟩ := hY pre (tl (t.extract 0 i)) _ (hJ _ _ _ hJp (grown_turn wr n Bn (.string (t.extract (i + 1) t.size)))) (pre_snoc HC.out); rw [stv_tl] at hy)
        refine hR.mono ?_
        rintro e W3 (⟨rfl, hJ3, hk3⟩ | ⟨rfl, hJx3⟩)
        · have hb2 : Boxed ((wr.drewN n).setCell ⟨Bn, 0, none⟩ (.string (t.extract (i + 1) t.size))) Bn 9 (.string (t.extract (i + 1) t.size)) := Boxed.set (W := wr.drewN n) _ hbx
          have hb3 := boxed_eq hb2 hk3
          have hsz : (t.extract (i + 1) t.size).size = t.size - (i + 1) := by simp
          gi_wp2
          go_roundw
          case rel => exact .inl ⟨pre ++ [tl (t.extract 0 i)], t.extract (i + 1) t.size, rfl, by rw [HC.out]; simp, by omega, hb3, hJ3⟩
          case measure => simp only [sizeAt_boxed hb3, sizeAt_boxed hbx]; omega
        · gi_wp2
          refine bodyPost_ret (results_none rfl _ _ _) rfl ?_
          exact ⟨⟨_, rfl⟩, .inr ⟨_, pre_snoc HC.out, hJx3⟩⟩
    · gi_wp2
      go_end0
      exact ⟨⟨_, rfl⟩, .inl hJp⟩
theorem nameParts_any (s : ByteArray) (w : World) : Calls Try.prog 72 #[.string s] w fun e w' => e = .returned (.func (.func 84) #[] #[.pointer (some ⟨w.heap.size, 0, none⟩)]) ∧ w' = w.alloc (.cells #[.string s] 9) := by
  go_enter Try.func72, Try.ntmps72
  go_wp2_with fail
  go_ret
  exact ⟨rfl, rfl⟩
end Go.Proofs.Ytkeledbgmpienaa

/- name.Check. -/
namespace Go.Proofs.Ytkeledbgmpienaa
open Go.RowKit

attribute [local go_sem] Oper.semAt_some

/-- what holds between two rounds of Check -/
def ckI (w : World) (pre : List (List UInt8)) (W : World) : Prop :=
  Boxed W w.heap.size 37 (.int .i64 0) ∧ Boxed W (w.heap.size + 1) 3 (.int .i64 (pre.length : Int)) ∧ Below w.heap.size w W ∧ (pre.all partB = true ∧ pre.length ≤ 6)
def ckX (w : World) (pre : List (List UInt8)) (W : World) : Prop :=
  Boxed W w.heap.size 37 (.int .i64 23) ∧ Below w.heap.size w W ∧ ¬ (pre.all partB = true ∧ pre.length ≤ 6)
theorem ckI_stands (w : World) : Stands (w.heap.size + 2) (w.heap.size + 3) (ckI w) := by
  rintro s A B r ⟨h1, h2, h3, h4⟩ hg hr
  have hlt : w.heap.size + 2 ≤ r := by rcases hr with rfl | ⟨h, _⟩ <;> omega
  exact ⟨h1.kept hg (by simp; omega), h2.kept hg (by simp; omega), h3.grown hg h3.size (fun k e => by cases e; omega), h4⟩
theorem ckX_stands (w : World) : Stands (w.heap.size + 2) (w.heap.size + 3) (ckX w) := by
  rintro s A B r ⟨h1, h3, h4⟩ hg hr
  have hlt : w.heap.size + 2 ≤ r := by rcases hr with rfl | ⟨h, _⟩ <;> omega
  exact ⟨h1.kept hg (by simp; omega), h3.grown hg h3.size (fun k e => by cases e; omega), h4⟩
theorem ck_done {s : List UInt8} (hs : s.length ≤ 96) (h : (cutL s).all partB = true ∧ (cutL s).length ≤ 6) : (if goodB s then (0 : Int) else 23) = 0 := by
  rw [if_pos]
  unfold goodB
  simp [hs, h.1, h.2]
theorem ck_stop {s : List UInt8} {pre : List (List UInt8)} (hp : pre <+: cutL s) (h : ¬ (pre.all partB = true ∧ pre.length ≤ 6)) : (if goodB s then (0 : Int) else 23) = 23 := by
  rw [if_neg]
  intro hg
  unfold goodB at hg
  simp only [Bool.and_eq_true, decide_eq_true_eq] at hg
  obtain ⟨t, ht⟩ := hp
  refine h ⟨?_, ?_⟩
  · have := hg.1.2
    rw [← ht] at this
    exact all_pre this
  · have := hg.2
    rw [← ht, List.length_append] at this
    omega
theorem below_put {w W : World} {D : Nat} {o o' : Obj} (h : Below w.heap.size w W) (hD : w.heap.size ≤ D) (_ : W.heap[D]? = some o) : Below w.heap.size w (W.putObj D o') :=
  h.grown (grownBy_putObj' W D o') h.size (fun k e => by cases e; exact hD)
theorem boxed_put {W : World} {b D : Nat} {t : TypeId} {v : Value} {o' : Obj} (h : Boxed W b t v) (hD : b ≠ D) : Boxed (W.putObj D o') b t v := h.kept (grownBy_putObj' W D o') (fun e => hD (by cases e; rfl))
theorem grown_cell (W : World) (b : Nat) (v : Value) : W.grownBy (W.setCell ⟨b, 0, none⟩ v) (some b) := grownBy_setCell' W b v

set_option maxRecDepth 100000 in
set_option maxHeartbeats 1000000 in
theorem check_near (s : ByteArray) (hs : s.size ≤ 96) (w : World) :
    Calls Try.prog 63 #[.string s] w fun e w' => e = .returned (.int .i64 (if goodB (tl s) then 0 else 23)) ∧ Below w.heap.size w w' := by
  obtain ⟨R, hR⟩ : ∃ R, R = (if goodB (tl s) then (0 : Int) else 23) := ⟨_, rfl⟩
  rw [← hR]
  have HR := Lib.hid hR
  clear hR
  refine (callsIn_wide (n := 2)).1 ?_
  refine callsIn_of_wp_marks Try.func63 rfl trivial ?_ rfl
  simp only [Try.ntmps63, List.size_toArray, List.length_cons, List.length_nil, Nat.reduceAdd, Nat.reduceSub, Array.replicate_succ, Array.replicate_zero, List.push_toArray, List.append_toArray, List.nil_append, List.cons_append]
  gi_wp2_with (refine ⟨trivial, ?_⟩; gi_at_call 72; refine (callsIn_wide.2 (nameParts_any s _)).mono ?_; rintro e w1 ⟨rfl, rfl⟩)
  have b0 := ((Boxed.new w 37 (.int .i64 0)).alloc (.cells #[.int .i64 0] 3)).alloc (.cells #[.string s] 9)
  have b1 := (Boxed.new (w.alloc (.cells #[.int .i64 0] 37)) 3 (.int .i64 0)).alloc (.cells #[.string s] 9)
  have b2 := Boxed.new ((w.alloc (.cells #[.int .i64 0] 37)).alloc (.cells #[.int .i64 0] 3)) 9 (.string s)
  have hl : Below w.heap.size w (((w.alloc (.cells #[.int .i64 0] 37)).alloc (.cells #[.int .i64 0] 3)).alloc (.cells #[.string s] 9)) := (((Below.refl _ _).alloc (Nat.le_refl _) _).alloc (by simp) _).alloc (by simp; omega) _
  have hz : (((w.alloc (.cells #[.int .i64 0] 37)).alloc (.cells #[.int .i64 0] 3)).alloc (.cells #[.string s] 9)).heap.size = w.heap.size + 3 := by simp
  simp only [World.size_alloc] at b1 b2
  rw [show w.heap.size + 1 + 1 = w.heap.size + 2 by omega] at *
  generalize ((w.alloc (.cells #[.int .i64 0] 37)).alloc (.cells #[.int .i64 0] 3)).alloc (.cells #[.string s] 9) = V at *
  refine wp_rangeCell (Bn := w.heap.size + 2) (gf := 84) (lb := #[.pointer (some ⟨w.heap.size + 2, 0, none⟩)]) (enc := stv) (xs := cutL (tl s)) rfl (enters_of Try.func84 (by kernel_rfl) rfl) (by omega)
    (fun W hW => parts_yields s (by omega) _ W (boxed_eq b2 hW)) (ckI w) (ckX w) (by rw [hz]; exact ckI_stands w) (by rw [hz]; exact ckX_stands w) ⟨b0, b1, hl, rfl, by simp⟩
    (fun x => { tmps := #[.string s, undef, .pointer (some ⟨w.heap.size, 0, none⟩), .pointer (some ⟨w.heap.size + 1, 0, none⟩), stv x, .string s, .int .i64 s.size, .bool (decide (96 < (s.size : Int))), .string s, .func (.func 84) #[] #[.pointer (some ⟨w.heap.size + 2, 0, none⟩)], stv x, undef, undef, undef, undef, undef, undef, undef, undef, undef], defers := [] }) ?assign ?body ?done ?stop
  case assign =>
    intro l x W K hK
    gi_wp2
    exact hK
  case body =>
    rintro l pre x W ⟨h1, h2, h3, h4⟩ hpre _
    have hn := h4.2
    have H4 := Lib.hid h4
    clear h4
    have c0 := h1.cell
    have f0 := h1.frozen
    have c1 := h2.cell
    have f1 := h2.frozen
    have hP := fun w => part_any ⟨⟨x⟩⟩ w
    rw [show tl ⟨⟨x⟩⟩ = x from rfl] at hP
    have HP := Lib.hid hP
    clear hP
    unfold stv
    have hkD : ∀ v, Kept (w.heap.size + 2) V.heap.size W (W.setCell ⟨w.heap.size + 1, 0, none⟩ v) := fun v k hk => Below.heap_setCell _ _ _ k (by simp; omega)
    have h1' := fun v => h1.kept (grown_cell W (w.heap.size + 1) v) (by simp)
    have h2' := fun v => h2.set v
    have h3' := fun v => h3.setCell (p := ⟨w.heap.size + 1, 0, none⟩) (by simp) v
    by_cases h6 : pre.length + 1 ≤ 6
    · have g6 : (pre.length : Int) + 1 ≤ 6 := by omega
      cases hp : partB x
      · rw [hp] at HP
        have HPX := Lib.hid hp
        clear hp
        have c0' := (h1' (.int .i64 ((pre.length : Int) + 1))).cell
        have f0' := (h1' (.int .i64 ((pre.length : Int) + 1))).frozen
        gi_wp2
        refine ⟨trivial, rfl, ?_⟩
        refine (CallsIn.inRound l (callsIn_wide.2 (HP.out _))).mono ?_
        rintro e w1 ⟨rfl, rfl⟩
        gi_wp2
        refine ⟨fun k hk => (Below.heap_setCell _ _ _ k (by simp; omega)).trans (hkD _ k hk), (h1' _).set _, (h3' _).setCell (p := ⟨w.heap.size, 0, none⟩) (by simp) _, ?_⟩
        rintro ⟨g, _⟩
        rw [List.all_append] at g
        simp [HPX.out] at g
      · rw [hp] at HP
        have HPX := Lib.hid hp
        clear hp
        gi_wp2
        refine ⟨trivial, rfl, ?_⟩
        refine (CallsIn.inRound l (callsIn_wide.2 (HP.out _))).mono ?_
        rintro e w1 ⟨rfl, rfl⟩
        gi_wp2
        refine ⟨hkD _, h1' _, ?_, h3' _, ?_, ?_⟩
        · have := h2' (.int .i64 ((pre.length : Int) + 1))
          simpa using this
        · rw [List.all_append, H4.out.1]
          simp [HPX.out]
        · simpa using h6
    · have g6 : 6 < (pre.length : Int) + 1 := by omega
      have c0' := (h1' (.int .i64 ((pre.length : Int) + 1))).cell
      have f0' := (h1' (.int .i64 ((pre.length : Int) + 1))).frozen
      gi_wp2
      refine ⟨trivial, ?_⟩
      gi_wp2
      refine ⟨fun k hk => (Below.heap_setCell _ _ _ k (by simp; omega)).trans (hkD _ k hk), (h1' _).set _, (h3' _).setCell (p := ⟨w.heap.size, 0, none⟩) (by simp) _, ?_⟩
      rintro ⟨_, g⟩
      simp at g
      omega
  case done =>
    rintro W ⟨h1, h2, h3, h4⟩ hK
    have c0 := h1.cell
    have f0 := h1.frozen
    obtain rfl : R = 0 := HR.out.trans (ck_done (by rw [tl_len]; omega) h4)
    clear h4
    gi_wp2
    have hK' : (W.setCell ⟨w.heap.size, 0, none⟩ (.int .i64 0)).heap[V.heap.size]? = some (.deferred (some [])) := (Below.heap_setCell _ _ _ _ (by simp; omega)).trans hK
    refine ⟨by simp, .inl ⟨_, _, rfl, run_takeDeferred hK', ?_⟩⟩
    have hc5 := (boxed_put (o' := .deferred none) (h1.set (.int .i64 0)) (show w.heap.size ≠ V.heap.size by omega)).cell
    refine ⟨.int .i64 0, ?_, rfl, below_put (h3.setCell (p := ⟨w.heap.size, 0, none⟩) (Nat.le_refl _) _) (by omega) hK'⟩
    simp [results, Try.f63, go_sem, hc5]
  case stop =>
    rintro pre W hpre ⟨h1, h3, h4⟩ hK
    have c0 := h1.cell
    have f0 := h1.frozen
    obtain rfl : R = 23 := HR.out.trans (ck_stop hpre h4)
    clear h4
    gi_wp2
    refine ⟨by simp, .inl ⟨_, _, rfl, run_takeDeferred hK, ?_⟩⟩
    have hc5 := (boxed_put (o' := .deferred none) h1 (show w.heap.size ≠ V.heap.size by omega)).cell
    refine ⟨.int .i64 23, ?_, rfl, below_put h3 (by omega) hK⟩
    simp [results, Try.f63, go_sem, hc5]
theorem check_any (s : ByteArray) (hs : s.size ≤ 9223372036854775807) (w : World) :
    Calls Try.prog 63 #[.string s] w fun e w' => e = .returned (.int .i64 (if goodB (tl s) then 0 else 23)) ∧ Below w.heap.size w w' := by
  by_cases h : s.size ≤ 96
  · exact check_near s h w
  · have hr : (if goodB (tl s) then (0 : Int) else 23) = 23 := by
      rw [if_neg]
      unfold goodB
      rw [tl_len]
      simp [h]
    rw [hr]
    clear hr
    have h1 : 96 < (s.size : Int) := by omega
    go_enter Try.func63, Try.ntmps63
    go_wp2_with fail
    refine bodyPost_ret (v := .int .i64 23) (by simp [results, Try.f63, go_sem]) rfl ⟨rfl, ?_⟩
    exact (by repeat (first | exact Below.refl _ _ | refine Below.alloc ?_ (by simp) _ | refine Below.setCell ?_ (by simp) _ | refine Below.drew ?_))
end Go.Proofs.Ytkeledbgmpienaa

/- name.User. -/
namespace Go.Proofs.Ytkeledbgmpienaa
open Go.RowKit

theorem goodB_len {l : List UInt8} (h : goodB l = true) : l.length ≤ 96 := by
  unfold goodB at h
  simp only [Bool.and_eq_true, decide_eq_true_eq] at h
  exact h.1.1
theorem goodB_ne {l : List UInt8} (h : goodB l = true) : l ≠ [] := by
  rintro rfl
  revert h
  decide
theorem check_yes (s : ByteArray) (hs : s.size ≤ 9223372036854775807) (h : goodB (tl s) = true) (w : World) : Calls Try.prog 63 #[.string s] w fun e w' => e = .returned (.int .i64 0) ∧ Below w.heap.size w w' := by
  have := check_any s hs w
  rwa [if_pos h] at this
theorem check_no (s : ByteArray) (hs : s.size ≤ 9223372036854775807) (h : goodB (tl s) = false) (w : World) : Calls Try.prog 63 #[.string s] w fun e w' => e = .returned (.int .i64 23) ∧ Below w.heap.size w w' := by
  have := check_any s hs w
  rwa [if_neg (by rw [h]; simp)] at this
/-- is it a user's? -/
def userB (l : List UInt8) : Bool := goodB l && !(l.head? == some 126)

theorem under_short (s t : ByteArray) : tl (s ++ t) = tl s ++ tl t := by simp [tl]
end Go.Proofs.Ytkeledbgmpienaa

/- name.Under. -/
namespace Go.Proofs.Ytkeledbgmpienaa
open Go.RowKit

theorem under_any (p top : ByteArray) (hp : p.size ≤ 9223372036854775807) (ht : top.size ≤ 9223372036854775807) (w : World) : Calls Try.prog 75 #[.string p, .string top] w fun e w' => e = .returned (.bool (underB (tl p) (tl top))) ∧ Below w.heap.size w w' := by
  cases h1 : goodB (tl p)
  · have hr : underB (tl p) (tl top) = false := by unfold underB; rw [h1]; rfl
    rw [hr]
    have HC := Lib.hid (check_no p hp h1)
    clear hr h1
    go_enter Try.func75, Try.ntmps75
    go_wp2_with fail
    refine (HC.out _).mono ?_
    rintro e w1 ⟨rfl, hb⟩
    go_wp2_with fail
    go_ret
    exact ⟨rfl, hb⟩
  · cases h2 : goodB (tl top)
    · have hr : underB (tl p) (tl top) = false := by unfold underB; rw [h1, h2]; rfl
      rw [hr]
      have HC := Lib.hid (check_yes p hp h1)
      have HD := Lib.hid (check_no top ht h2)
      clear hr h1 h2
      go_enter Try.func75, Try.ntmps75
      go_wp2_with fail
      refine (HC.out _).mono ?_
      rintro e w1 ⟨rfl, hb⟩
      go_wp2_with fail
      refine (HD.out _).mono ?_
      rintro e w2 ⟨rfl, hb2⟩
      go_wp2_with fail
      go_ret
      exact ⟨rfl, bthen hb hb2⟩
    · obtain ⟨R, hR⟩ : ∃ R, R = underB (tl p) (tl top) := ⟨_, rfl⟩
      have hr : R = preB (tl p) (tl top) := by rw [hR]; unfold underB; rw [h1, h2]; rfl
      rw [← hR]
      have HR := Lib.hid hr
      have HC := Lib.hid (check_yes p hp h1)
      have HD := Lib.hid (check_yes top ht h2)
      have hts : top.size ≤ 96 := by have := goodB_len h2; rwa [tl_len] at this
      clear hr hR h1 h2
      go_enter Try.func75, Try.ntmps75
      go_wp2_with fail
      refine (HC.out _).mono ?_
      rintro e w1 ⟨rfl, hb⟩
      go_wp2_with fail
      refine (HD.out _).mono ?_
      rintro e w2 ⟨rfl, hb2⟩
      go_wp2_with fail
      refine (Try.strings_HasPrefix _ _ _).mono ?_
      rintro e w3 ⟨rfl, rfl⟩
      go_wp2_with fail
      go_ret
      refine ⟨ret_b ?_, bthen hb hb2⟩
      rw [HR.out]
      unfold preB Lib.hasPrefix
      rfl
end Go.Proofs.Ytkeledbgmpienaa

/- From a law's contract ('it returns true, and all that was there is as it was') to its row. -/
namespace Go.Proofs.Ytkeledbgmpienaa
open Go.RowKit Go.WideShapes Go.ChangeShapes Go.ChangeAt

theorem trodAll_stays {H : Type} {enc : TypeId × Value → H} {W W' : World} {sp : Nat → Bool} (hb : Below W.heap.size W W') :
    ∀ (ts : List TypeId) (vs : List Value) (ds : List (DataW H)) (ps : List MemPlace), (∀ t ∈ ts, Try.prog.readableRec t = true ∧ t < Try.prog.types.size) →
      DataW.TrodAll enc Try.prog W 0 (fun _ => true) true ts vs ds ps → (∀ p ∈ ps, p.block < W.heap.size ∧ sp p.block = true) →
      DataW.TrodAll enc Try.prog W' 0 sp true ts vs ds ps
  | [], [], [], _, _, h, _ => h
  | t :: ts, v :: vs, d :: ds, ps, hr, h, hp => by
    obtain ⟨p, q, h1, h2, rfl⟩ := h
    refine ⟨p, q, ?_, trodAll_stays hb ts vs ds q (fun t ht => hr t (by simp [ht])) h2 (fun x hx => hp x (by simp [hx])), rfl⟩
    exact WideElems.Trod_stays Try.laidOut (hr t (by simp)).1 (hr t (by simp)).2 h1 (fun x hx => hb.same (hp x (by simp [hx])).1) (fun x hx => (hp x (by simp [hx])).2)
  | [], _ :: _, _, _, _, h, _ => h.elim
  | [], [], _ :: _, _, _, h, _ => h.elim
  | _ :: _, [], _, _, _, h, _ => h.elim
  | _ :: _, _ :: _, [], _, _, h, _ => h.elim

theorem trodAll_len {H : Type} {enc : TypeId × Value → H} {P : Program} {W : World} {base : Nat} {sp : Nat → Bool} {hd : Bool} :
    ∀ (ts : List TypeId) (vs : List Value) (ds : List (DataW H)) (ps : List MemPlace), DataW.TrodAll enc P W base sp hd ts vs ds ps → ds.length = ts.length
  | [], [], [], _, _ => rfl
  | t :: ts, v :: vs, d :: ds, ps, h => by
    obtain ⟨p, q, _, h2, _⟩ := h
    simpa using trodAll_len ts vs ds q h2
  | [], _ :: _, _, _, h => h.elim
  | [], [], _ :: _, _, h => h.elim
  | _ :: _, [], _, _, h => h.elim
  | _ :: _, _ :: _, [], _, h => h.elim

set_option maxRecDepth 100000 in
/-- every parameter's type can be read -/
theorem law_reads {ts : List TypeId} (h : (ts.all fun t => Try.prog.readableRec t && decide (t < Try.prog.types.size)) = true) : ∀ t ∈ ts, Try.prog.readableRec t = true ∧ t < Try.prog.types.size := by
  intro t ht
  have := List.all_eq_true.1 h t ht
  simpa using this

set_option maxRecDepth 100000 in
theorem law_lift {os : Os} (started : os.Started) {H : Type} {enc : TypeId × Value → H} {k : FuncId} {fn : Func} {s : ChangeSpec}
    (noInit : Try.checked.prog.inits.idxOf? k = none) (hfn : Try.prog.funcs[k]? = some fn)
    (hrt : fn.resultTypes = #[4]) (hvars : s.vars = [])
    (hread : ∀ t ∈ fn.params.toList, Try.prog.readableRec t = true ∧ t < Try.prog.types.size)
    (hs : ∀ ds : List (DataW H), ds.length = fn.params.toList.length → s.fn H ds = { results := [.lit (.bool true)], args := ds })
    (witness : ∃ (w : World) (tape : Tape) (i : Input), w.os = os ∧ (w.forCall tape i).Shaped Try.checked.prog ∧ i.vars = [] ∧ Input.okWide Try.checked.prog (w.forCall tape i) .any w.heap.size k i ∧
      s.pre6 enc Try.checked.prog fn [] false (w.forCall tape i).memory i.args ∧ ({} : Assume).holds Try.checked.prog (lone (Frame.enter Try.checked.prog k i.args .normal) [] (w.forCall tape i)))
    (contract : ∀ (W : World) (base : Nat) (args : Array Value) (ds : List (DataW H)) (ps : List MemPlace),
      (∀ (j : Nat) t v, fn.params[j]? = some t → args[j]? = some v → Value.okWide Try.prog W .any base t v) →
      DataW.TrodAll enc Try.prog W 0 (fun _ => true) true fn.params.toList args.toList ds ps →
      (∀ p ∈ ps, p.block < W.heap.size) →
      (DataW.weightsEach Try.prog fn.params.toList ds).all (· ≤ reachBytes) = true →
      Calls Try.prog k args W fun e W' => e = .returned (.bool true) ∧ Below W.heap.size W W') :
    ReturnsInHanded {} Try.checked os k .any (s.pre6 enc Try.checked.prog fn [] false) (s.post enc Try.checked.prog fn false true false false) := by
  refine returnsInHanded_of_change_sized (C := Try.checked) Try.own started noInit hfn witness ?_
  intro W base args ds gs before hval hW _ hsz _
  have hW' := hW
  obtain ⟨p, q, hA, hV, rfl, hfz, hnd⟩ := hW
  rw [hvars] at hV
  obtain ⟨rfl, rfl⟩ := trodVars_none hV
  have hlt : ∀ x ∈ p, x.block < W.heap.size := fun x hx => hW'.lt x (by simp [hx])
  have hlen : ds.length = fn.params.toList.length := trodAll_len _ _ _ _ hA
  have hsz' : (DataW.weightsEach Try.prog fn.params.toList ds).all (· ≤ reachBytes) = true := by
    have hv : s.plain.varTypes Try.checked.prog = [] := by simp only [ChangeSpec.plain, hvars]; rfl
    rw [hv, List.append_nil, List.append_nil] at hsz
    exact hsz
  refine (contract W base args ds p hval hA hlt hsz').mono fun e W' ⟨he, hb⟩ => ?_
  have e1 : s.fn H (ds ++ []) = { results := [.lit (.bool true)], args := ds } := by rw [List.append_nil]; exact hs ds hlen
  refine ⟨_, he, post_below (pa := p) (pv := []) hW' ?_ ?_ ?_ rfl hb ?_⟩
  · intro b sp hd
    rw [e1, hrt]
    exact trodAll_mk1 (shut_bool Try.underlying4 true)
  · intro sp hsp
    rw [e1]
    exact trodAll_stays hb _ _ _ _ hread hA (fun x hx => ⟨hlt x hx, hsp x (by simp [hx])⟩)
  · intro sp hsp
    rw [e1, hvars]
    rfl
  · exact ok_one hrt rfl (okWide_bool_mk Try.underlying4 true)
end Go.Proofs.Ytkeledbgmpienaa

/- Arguments opened: structs by value of any number of one-cell fields. -/
namespace Go.Proofs.Ytkeledbgmpienaa
open Go.RowKit Go.WideShapes Go.ChangeShapes Go.ChangeAt Go.Deep Go.Joins

section
variable {H : Type} {enc : TypeId × Value → H} {P : Program} {w : World} {base : Nat} {spare : Nat → Bool} {held : Bool}
/-- A struct by value: its cells, and each field's reading. -/
theorem open_aggN {r : Reach} {b0 : Nat} {t : TypeId} {fs : Array Field} {v : Value} {d : DataW H} {p : List MemPlace} (hs : P.underlying t = some (.struct fs)) (hone : oneCellFields P fs = true) (hC : P.cellsOf t = fs.size)
    (hv : Value.okWide P w r b0 t v) (h : DataW.Trod enc P w base spare held t v d p) :
    ∃ (cs : List Value) (ys : List (DataW H × List MemPlace)) (n : Nat), v = .agg cs.toArray ∧ cs.length = fs.size ∧ ys.length = fs.size ∧ d = .agg (ys.map (·.1)) ∧ p = ys.flatMap (·.2) ∧
      ∀ (j : Nat) (f : Field) (c : Value) (y : DataW H × List MemPlace), fs[j]? = some f → cs[j]? = some c → ys[j]? = some y → DataW.trod enc P w base spare held n f.type [c] = some y := by
  obtain ⟨cs, rfl, hsz⟩ := okWide_struct hs hv
  obtain ⟨l⟩ := cs
  obtain ⟨fuel, hf⟩ := h
  obtain ⟨xs, n, _, hx, hl, hlen, hg⟩ := DataW.trod_struct hs hf
  simp only [Prod.mk.injEq] at hx
  have hll : l.length = fs.size := by rw [← hC]; exact hsz
  refine ⟨l, xs, n, rfl, hll, hlen, hx.1, hx.2, fun j f c y hj hc hy => ?_⟩
  obtain ⟨ho, hk⟩ := hone_of hone j f hj
  have h1 := hg j f hj
  rw [ho, hk] at h1
  have hjl : j < l.length := by have := (Array.getElem?_eq_some_iff.1 hj).1; omega
  have e : ((Value.agg { toList := l }).cells.toList.drop j).take 1 = [c] := by
    show (l.drop j).take 1 = [c]
    rw [List.drop_eq_getElem_cons hjl, List.take_succ_cons, List.take_zero]
    rw [List.getElem?_eq_getElem hjl] at hc
    simpa using hc
  rw [e] at h1
  rw [h1, hy]

theorem list9 {α : Type} {l : List α} (h : l.length = 9) : ∃ a0 a1 a2 a3 a4 a5 a6 a7 a8, l = [a0, a1, a2, a3, a4, a5, a6, a7, a8] := by
  match l, h with
  | [a0, a1, a2, a3, a4, a5, a6, a7, a8], _ => exact ⟨_, _, _, _, _, _, _, _, _, rfl⟩
end
end Go.Proofs.Ytkeledbgmpienaa

/- Words for memory: what may change between two worlds (Fr), what a slice reads as (Rd), a block known whole (Blk), append onto an owned row. No program. -/
namespace Go.Proofs.Ytkeledbgmpienaa
open Go.RowKit

theorem add_none (b o j : Nat) : (⟨b, o, none⟩ : Addr).add j = ⟨b, o + j, none⟩ := by
  unfold Addr.add
  split
  · rename_i h; subst h; rfl
  · rfl

/-- Between w and w' only blocks of S, and new ones, have turned. -/
structure Fr (S : Nat → Prop) (w w' : World) : Prop where
  os : w'.os = w.os
  tape : w'.tape = w.tape
  output : w'.output = w.output
  size : w.heap.size ≤ w'.heap.size
  block : ∀ k, k < w.heap.size → ¬ S k → w'.heap[k]? = w.heap[k]?

/-- the block of a slice's address -/
def ablk : Option Addr → Option Nat | some a => some a.block | none => none

namespace Fr
variable {S S' : Nat → Prop} {a b c : World}
theorem refl (S : Nat → Prop) (w : World) : Fr S w w := ⟨rfl, rfl, rfl, Nat.le_refl _, fun _ _ _ => rfl⟩
theorem mono (h : Fr S a b) (hs : ∀ k, k < a.heap.size → S k → S' k) : Fr S' a b := ⟨h.os, h.tape, h.output, h.size, fun k hk hn => h.block k hk (fun hx => hn (hs k hk hx))⟩
theorem trans (h : Fr S a b) (k : Fr S' b c) (hs : ∀ x, x < a.heap.size → S' x → S x) : Fr S a c :=
  ⟨k.os.trans h.os, k.tape.trans h.tape, k.output.trans h.output, Nat.le_trans h.size k.size, fun x hx hn =>
    (k.block x (Nat.lt_of_lt_of_le hx h.size) (fun hy => hn (hs x hx hy))).trans (h.block x hx hn)⟩
theorem of_below (h : Below a.heap.size a b) (S : Nat → Prop) : Fr S a b := ⟨h.os, h.tape, h.output, h.size, fun k hk _ => h.block k hk⟩
theorem of_grown {row : Option Nat} (h : a.grownBy b row) (hr : ∀ k, k < a.heap.size → row = some k → S k) : Fr S a b :=
  ⟨h.os, h.tape, h.output, h.size, fun k hk hn => h.block k hk (fun e => hn (hr k hk e.symm))⟩
theorem below {B : Nat} (h : Fr S a b) (hB : B ≤ a.heap.size) (hs : ∀ k, k < B → ¬ S k) : Below B a b := ⟨h.os, h.tape, h.output, h.size, fun k hk => h.block k (by omega) (hs k hk)⟩
theorem then_below (h : Fr S a b) (k : Below b.heap.size b c) : Fr S a c := h.trans (of_below k S) (fun _ _ h => h)
theorem drew (h : Fr S a b) : Fr S a b.drew := ⟨h.os, h.tape, h.output, h.size, h.block⟩
theorem drewN (h : Fr S a b) (n : Nat) : Fr S a (b.drewN n) := ⟨h.os, h.tape, h.output, h.size, h.block⟩
theorem alloc (h : Fr S a b) (o : Obj) : Fr S a (b.alloc o) :=
  h.then_below ((Below.refl _ _).alloc (Nat.le_refl _) o)
theorem setCell (h : Fr S a b) {p : Addr} (hp : p.block < a.heap.size → S p.block) (u : Value) : Fr S a (b.setCell p u) :=
  ⟨h.os, h.tape, h.output, by simpa [World.setCell] using h.size, fun k hk hn => (Below.heap_setCell b p u k (by rintro rfl; exact hn (hp hk))).trans (h.block k hk hn)⟩
theorem setAt (h : Fr S a b) (x o : Nat) (hx : S x) (u : Value) : Fr S a (b.setCell ⟨x, o, none⟩ u) := h.setCell (p := ⟨x, o, none⟩) (fun _ => hx) u
theorem cell (h : Fr S a b) {p : Addr} (hp : p.block < a.heap.size) (hn : ¬ S p.block) : b.cell? p = a.cell? p := World.cell?_of_block (w := a) (h.block p.block hp hn)
theorem frozen (h : Fr S a b) {p : Addr} (hp : p.block < a.heap.size) (hn : ¬ S p.block) : b.frozen? p = a.frozen? p := World.frozen?_of_block (w := a) (h.block p.block hp hn)
end Fr

/-- The slice's address A reads, n elements of so many cells, as the cells xs; they lie in a block of Z. -/
def Rd (w : World) (Z : Nat → Prop) (size : Nat) (A : Option Addr) (n : Nat) (xs : List Value) : Prop :=
  xs.length = n * size ∧ (0 < n * size → ∃ b off, A = some ⟨b, off, none⟩ ∧ Z b ∧ b < w.heap.size ∧ ∀ j u, xs[j]? = some u → w.cell? ⟨b, off + j, none⟩ = some u)

namespace Rd
variable {w w' : World} {Z Z' S : Nat → Prop} {size n : Nat} {A : Option Addr} {xs : List Value}
theorem nil : Rd w Z size A 0 [] := ⟨by simp, fun h => by simp at h⟩
theorem fr (h : Rd w Z size A n xs) (k : Fr S w w') (hs : ∀ b, b < w.heap.size → Z b → ¬ S b) : Rd w' Z size A n xs :=
  ⟨h.1, fun hn => by
    obtain ⟨b, off, e, hz, hb, hc⟩ := h.2 hn
    exact ⟨b, off, e, hz, Nat.lt_of_lt_of_le hb k.size, fun j u hu => (k.cell (p := ⟨b, off + j, none⟩) hb (hs b hb hz)).trans (hc j u hu)⟩⟩
theorem below (h : Rd w Z size A n xs) (k : Below w.heap.size w w') : Rd w' Z size A n xs := h.fr (Fr.of_below k (fun _ => False)) (fun _ _ _ h => h)
theorem mono (h : Rd w Z size A n xs) (hz : ∀ b, b < w.heap.size → Z b → Z' b) : Rd w Z' size A n xs :=
  ⟨h.1, fun hn => by
    obtain ⟨b, off, e, hz', hb, hc⟩ := h.2 hn
    exact ⟨b, off, e, hz b hb hz', hb, hc⟩⟩
theorem drew (h : Rd w Z size A n xs) : Rd w.drew Z size A n xs := h
theorem drewN (h : Rd w Z size A n xs) (k : Nat) : Rd (w.drewN k) Z size A n xs := h
theorem alloc (h : Rd w Z size A n xs) (o : Obj) : Rd (w.alloc o) Z size A n xs := h.below ((Below.refl _ _).alloc (Nat.le_refl _) o)
/-- one element of one cell -/
theorem at1 {k : Nat} (h : Rd w Z 1 A n xs) (hk : k < n) : ∃ b off, A = some ⟨b, off, none⟩ ∧ Z b ∧ b < w.heap.size ∧ w.cell? ⟨b, off + k, none⟩ = some (xs.getD k undef) := by
  obtain ⟨b, off, e, hz, hb, hc⟩ := h.2 (by omega)
  have hl : k < xs.length := by have := h.1; omega
  refine ⟨b, off, e, hz, hb, hc k _ ?_⟩
  rw [List.getD_eq_getElem?_getD, List.getElem?_eq_getElem hl]
  rfl
/-- cell j of all -/
theorem atj {j : Nat} {u : Value} (h : Rd w Z size A n xs) (hu : xs[j]? = some u) : ∃ b off, A = some ⟨b, off, none⟩ ∧ Z b ∧ b < w.heap.size ∧ w.cell? ⟨b, off + j, none⟩ = some u := by
  have hj := (List.getElem?_eq_some_iff.1 hu).1
  have := h.1
  obtain ⟨b, off, e, hz, hb, hc⟩ := h.2 (by omega)
  exact ⟨b, off, e, hz, hb, hc j u hu⟩
/-- element k of a mapped list -/
theorem atm {α : Type} {f : α → Value} {l : List α} {k : Nat} (h : Rd w Z 1 A n (l.map f)) (hk : k < l.length) : ∃ b off, A = some ⟨b, off, none⟩ ∧ Z b ∧ b < w.heap.size ∧ w.cell? ⟨b, off + k, none⟩ = some (f l[k]) :=
  h.atj (by rw [List.getElem?_map, List.getElem?_eq_getElem hk]; rfl)
theorem some_of (h : Rd w Z size A n xs) (hn : 0 < n * size) : ∃ b off, A = some ⟨b, off, none⟩ ∧ Z b ∧ b < w.heap.size := by
  obtain ⟨b, off, e, hz, hb, _⟩ := h.2 hn
  exact ⟨b, off, e, hz, hb⟩
theorem take (h : Rd w Z size A n xs) {k : Nat} (hk : k ≤ n) : Rd w Z size A k (xs.take (k * size)) := by
  have hle : k * size ≤ n * size := Nat.mul_le_mul_right _ hk
  refine ⟨by rw [List.length_take, h.1]; omega, fun hn => ?_⟩
  obtain ⟨b, off, e, hz, hb, hc⟩ := h.2 (by omega)
  refine ⟨b, off, e, hz, hb, fun j u hu => hc j u ?_⟩
  rw [List.getElem?_take] at hu
  split at hu
  · exact hu
  · cases hu
/-- s[k:] -/
theorem drop (h : Rd w Z size A n xs) {k cap : Nat} (hk : k ≤ n) (hc : n ≤ cap) : Rd w Z size (if cap = k then A else A.map (·.add (k * size))) (n - k) (xs.drop (k * size)) := by
  refine ⟨by rw [List.length_drop, h.1, Nat.sub_mul], fun hn => ?_⟩
  have hkn : k < n := by
    rcases Nat.lt_or_ge k n with h1 | h1
    · exact h1
    · rw [show n - k = 0 by omega] at hn; simp at hn
  have hs : 0 < size := Nat.pos_of_mul_pos_left hn
  obtain ⟨b, off, rfl, hz, hb, hcell⟩ := h.2 (Nat.mul_pos (by omega) hs)
  rw [if_neg (by omega)]
  refine ⟨b, off + k * size, ?_, hz, hb, fun j u hu => ?_⟩
  · rw [Option.map_some, add_none]
  · rw [Nat.add_assoc]
    exact hcell _ u (by rw [← hu, List.getElem?_drop])
theorem of_own {base e : Nat} {c : Nat} (h : w.ownsRow base e size (.slice A n c) n xs) (hz : ∀ b, ablk A = some b → b < w.heap.size → Z b) : Rd w Z size A n xs := by
  refine ⟨h.1, fun hn => ?_⟩
  have hn' : 0 < n := Nat.pos_of_mul_pos_right hn
  obtain ⟨g, cap, hv, _, hlt⟩ := h.form hn'
  have hA : A = some ⟨g, 0, none⟩ := by injection hv
  subst hA
  refine ⟨g, 0, rfl, hz g rfl hlt, hlt, fun j u hu => ?_⟩
  have := h.cells (g := g) rfl j u hu
  rwa [add_none] at this
theorem of_block {b : Nat} {t : TypeId} {cs : Array Value} {fr : Nat × Nat} (h : w.heap[b]? = some (.cells cs t fr)) (hz : Z b) (hs : cs.size = n * size) : Rd w Z size (some ⟨b, 0, none⟩) n cs.toList := by
  refine ⟨by simpa using hs, fun _ => ⟨b, 0, rfl, hz, (Array.getElem?_eq_some_iff.1 h).1, fun j u hu => ?_⟩⟩
  rw [cell_of_row w b _ cs t fr h]
  simpa using hu
/-- a slice's literal, just laid -/
theorem lit {t : TypeId} {cs : Array Value} {b : Nat} (hs : cs.toList = xs) (hn : xs.length = n * size) (hb : b = w.heap.size) : Rd (w.alloc (.cells cs t)) (fun b => w.heap.size ≤ b) size (some ⟨b, 0, none⟩) n xs := by
  subst hs hb
  exact of_block (heap_alloc_new w _) (Nat.le_refl _) (by simpa using hn)
end Rd

/-- Block g is just the cells cs of element type t, none frozen. -/
def Blk (w : World) (g : Nat) (t : TypeId) (cs : Array Value) : Prop := w.heap[g]? = some (.cells cs t (0, 0))

namespace Blk
variable {w w' : World} {g : Nat} {t : TypeId} {cs : Array Value}
theorem lt (h : Blk w g t cs) : g < w.heap.size := (Array.getElem?_eq_some_iff.1 h).1
theorem cell (h : Blk w g t cs) (i : Nat) : w.cell? ⟨g, i, none⟩ = cs[i]? := cell_of_row w g i cs t (0, 0) h
theorem frozen (h : Blk w g t cs) (i : Nat) : w.frozen? ⟨g, i, none⟩ = false := by
  unfold Blk at h
  simp [World.frozen?, h]
theorem new (w : World) (t : TypeId) (cs : Array Value) : Blk (w.alloc (.cells cs t)) w.heap.size t cs := heap_alloc_new w _
theorem drew (h : Blk w g t cs) : Blk w.drew g t cs := h
theorem drewN (h : Blk w g t cs) (n : Nat) : Blk (w.drewN n) g t cs := h
theorem alloc (h : Blk w g t cs) (o : Obj) : Blk (w.alloc o) g t cs := (Below.heap_alloc w o g h.lt).trans h
theorem set_ (h : Blk w g t cs) (i : Nat) (u : Value) : Blk (w.setCell ⟨g, i, none⟩ u) g t (cs.setIfInBounds i u) := by
  unfold Blk at h ⊢
  simp [World.setCell, Array.getElem?_modify, h]
theorem far (h : Blk w g t cs) {p : Addr} (hp : g ≠ p.block) (u : Value) : Blk (w.setCell p u) g t cs := (Below.heap_setCell w p u g hp).trans h
theorem fr {S : Nat → Prop} (h : Blk w g t cs) (k : Fr S w w') (hs : ¬ S g) : Blk w' g t cs := (k.block g h.lt hs).trans h
theorem below (h : Blk w g t cs) (k : Below w.heap.size w w') : Blk w' g t cs := (k.block g h.lt).trans h
theorem grown {row : Option Nat} (h : Blk w g t cs) (hb : w.grownBy w' row) (hg : row ≠ some g) : Blk w' g t cs := (hb.block g h.lt (fun e => hg e.symm)).trans h
theorem ne_ {g' : Nat} {t' : TypeId} {cs' : Array Value} (h : Blk w g t cs) (h' : Blk w g' t' cs') (hne : t ≠ t') : g ≠ g' := by
  rintro rfl
  unfold Blk at h h'
  rw [h] at h'
  injection h' with h'
  injection h' with _ ht
  exact hne ht
theorem own_ne {base : Nat} {e : TypeId} {size n : Nat} {v : Value} {xs : List Value} (hg : Blk w g t cs) (h : w.ownsRow base e size v n xs) (hne : e ≠ t) : v.ownBlock ≠ some g := by
  rcases h.2 with ⟨rfl, _⟩ | ⟨g', cap, cur, rfl, _, hh, _⟩
  · simp [Value.ownBlock]
  · intro he
    have : g' = g := by simpa [Value.ownBlock] using he
    subst this
    exact Blk.ne_ (t := e) hh hg hne rfl
end Blk

theorem own_fr {w w' : World} {base : Nat} {e : TypeId} {size n : Nat} {v : Value} {xs : List Value} {S : Nat → Prop} (h : w.ownsRow base e size v n xs) (k : Fr S w w') (hs : ∀ g, v.ownBlock = some g → ¬ S g) : w'.ownsRow base e size v n xs := by
  refine ⟨h.1, ?_⟩
  rcases h.2 with hn | ⟨g, cap, cur, rfl, hb, hg, r⟩
  · exact .inl hn
  · exact .inr ⟨g, cap, cur, rfl, hb, by rw [k.block g (Array.getElem?_eq_some_iff.1 hg).1 (hs g rfl)]; exact hg, r⟩
theorem own_below {w w' : World} {base : Nat} {e : TypeId} {size n : Nat} {v : Value} {xs : List Value} (h : w.ownsRow base e size v n xs) (k : Below w.heap.size w w') : w'.ownsRow base e size v n xs :=
  own_fr h (Fr.of_below k (fun _ => False)) (fun _ _ h => h)
theorem own_form {w : World} {base : Nat} {e : TypeId} {size n : Nat} {v : Value} {xs : List Value} (h : w.ownsRow base e size v n xs) : ∃ A c, v = .slice A n c ∧ n ≤ c ∧ c ≤ maxLen ∧ (∀ b, ablk A = some b → base ≤ b ∧ b < w.heap.size ∧ v.ownBlock = some b) ∧ (A = none → n = 0 ∧ c = 0) ∧ (∀ a, A = some a → a = ⟨a.block, 0, none⟩) := by
  rcases h.2 with ⟨rfl, rfl⟩ | ⟨g, cap, cur, rfl, hb, hg, hn, hm, r⟩
  · exact ⟨none, 0, rfl, Nat.le_refl _, by simp [maxLen], by simp [ablk], by simp, by simp⟩
  · exact ⟨some ⟨g, 0, none⟩, cap, rfl, hn, hm, by rintro b hb'; simp [ablk] at hb'; subst hb'; exact ⟨hb, (Array.getElem?_eq_some_iff.1 hg).1, rfl⟩, by simp, by simp⟩
theorem own_base {w : World} {base base' : Nat} {e : TypeId} {size n : Nat} {v : Value} {xs : List Value} (h : w.ownsRow base e size v n xs) (hb : ∀ g, v.ownBlock = some g → base' ≤ g) : w.ownsRow base' e size v n xs := by
  refine ⟨h.1, ?_⟩
  rcases h.2 with hn | ⟨g, cap, cur, rfl, _, r⟩
  · exact .inl hn
  · exact .inr ⟨g, cap, cur, rfl, hb g rfl, r⟩
theorem own_lt {w : World} {base : Nat} {e : TypeId} {size n : Nat} {v : Value} {xs : List Value} (h : w.ownsRow base e size v n xs) : ∀ g, v.ownBlock = some g → base ≤ g ∧ g < w.heap.size := h.lt

section
variable {P : Program} (w : World)

theorem run_append_of_nil (base : Nat) (t ty e : TypeId) (i : TypeInfo) (size : Nat) (ht : P.underlying t = some (.slice e)) (hi : P.info? e = some i)
    (v : Value) (n : Nat) (xs : List Value) (hown : w.ownsRow base e size v n xs) (c : Nat) : (Builtin.append_ #[t, t] ty #[v, .slice none 0 c]).run P w = .ok v w := by
  rcases hown.2 with ⟨rfl, rfl⟩ | ⟨g, cap, cur, rfl, _, _, hnc, _⟩
  · simp [Builtin.append_, run_underlying ht, sizeOf, typeInfo, hi, Builtin.lenOf, Builtin.firstCells]
  · simp [Builtin.append_, run_underlying ht, sizeOf, typeInfo, hi, Builtin.lenOf, Builtin.firstCells, hnc, storeCells]

/-- append onto an owned row, whatever the source is -/
theorem run_append_any (base : Nat) (t ty e : TypeId) (i : TypeInfo) (z : Value) (size bytes : Nat) (ht : P.underlying t = some (.slice e)) (hi : P.info? e = some i) (hz : i.zero = some z)
    (hsize : i.size = size) (hby : i.bytes = bytes) (hzs : z.cells.size = size) (hsz : 0 < size)
    (v : Value) (n : Nat) (xs : List Value) (hown : w.ownsRow base e size v n xs)
    (Z : Nat → Prop) (A : Option Addr) (m c : Nat) (news : List Value) (hr : Rd w Z size A m news) (h1 : ∀ u ∈ news, u.oneCell' = true)
    (h63 : n + m ≤ maxLen) (hbytes : (n + m) * bytes ≤ 140737488355328) (hbase : base ≤ w.heap.size) :
    ∃ v' w', (Builtin.append_ #[t, t] ty #[v, .slice A m c]).run P w = .ok v' w' ∧ w'.ownsRow base e size v' (n + m) (xs ++ news) ∧ w.grownBy w' v.ownBlock ∧
      (v'.ownBlock = v.ownBlock ∨ v'.ownBlock = some w.heap.size) := by
  rcases A with _ | ad
  · have hm : m = 0 := by
      rcases Nat.eq_zero_or_pos m with h0 | h0
      · exact h0
      · obtain ⟨b, off, h, _⟩ := hr.2 (Nat.mul_pos h0 hsz)
        cases h
    subst hm
    have hn : news = [] := List.eq_nil_of_length_eq_zero (by simpa using hr.1)
    subst hn
    exact ⟨v, w, run_append_of_nil w base t ty e i size ht hi v n xs hown c, by simpa using hown, World.grownBy.refl w _, .inl rfl⟩
  · have hcells : ∀ j u, news[j]? = some u → w.cell? (ad.add j) = some u := by
      intro j u hu
      obtain ⟨b, off, h, _, _, hc⟩ := hr.atj hu
      injection h with h
      subst h
      rw [add_none]
      exact hc
    obtain ⟨v', w', hrun, h2, h3, _, h5⟩ := run_append_own_at (P := P) w base t ty e i z size bytes ht hi hz hsize hby hzs hsz v n xs hown ad m c news hr.1 hcells h1 h63 hbytes hbase
    exact ⟨v', w', hrun, h2, h3, h5⟩

theorem wp_append_any {o : Oper} {a : Act} {K : Act → World → Prop} {Q : Exit → Act → World → Prop} (s x : Operand) (t : TypeId)
    (ho : o.op = .call { callee := .builtin .append, args := #[s, x], argTypes := #[t, t] })
    (base : Nat) (e : TypeId) (i : TypeInfo) (z : Value) (size bytes : Nat) (ht : P.underlying t = some (.slice e)) (hi : P.info? e = some i) (hz : i.zero = some z)
    (hsize : i.size = size) (hby : i.bytes = bytes) (hzs : z.cells.size = size) (hsz : 0 < size)
    (v : Value) (n : Nat) (xs : List Value) (hs : a.eval s = v) (hown : w.ownsRow base e size v n xs)
    (Z : Nat → Prop) (A : Option Addr) (m c : Nat) (news : List Value) (hx : a.eval x = .slice A m c) (hr : Rd w Z size A m news) (h1 : ∀ u ∈ news, u.oneCell' = true)
    (h63 : n + m ≤ maxLen) (hbytes : (n + m) * bytes ≤ 140737488355328) (hbase : base ≤ w.heap.size)
    (h : ∀ v' w', w'.ownsRow base e size v' (n + m) (xs ++ news) → w.grownBy w' v.ownBlock → (v'.ownBlock = v.ownBlock ∨ v'.ownBlock = some w.heap.size) → K (a.put o.dst v') w') : o.wp P a w K Q := by
  obtain ⟨v', w', hrun, h2, h3, h4⟩ := run_append_any (P := P) w base t o.type e i z size bytes ht hi hz hsize hby hzs hsz v n xs hown Z A m c news hr h1 h63 hbytes hbase
  unfold Oper.wp execOp
  simp only [ho, resolve, invoke, builtin, Sem.run_bind, Sem.run_pure, Result.andThen_ok, List.map_toArray, List.map_cons, List.map_nil, hs, hx, hrun]
  exact h v' w' h2 h3 h4

theorem wpList_append_any {ops : Array Oper} {rest : List Oper} {o : Oper} {a : Act} {Q : Exit → Act → World → Prop} (hgd : o.guard = none) (s x : Operand) (t : TypeId)
    (ho : o.op = .call { callee := .builtin .append, args := #[s, x], argTypes := #[t, t] })
    (base : Nat) (e : TypeId) (i : TypeInfo) (z : Value) (size bytes : Nat) (ht : P.underlying t = some (.slice e)) (hi : P.info? e = some i) (hz : i.zero = some z)
    (hsize : i.size = size) (hby : i.bytes = bytes) (hzs : z.cells.size = size) (hsz : 0 < size)
    (v : Value) (n : Nat) (xs : List Value) (hs : a.eval s = v) (hown : w.ownsRow base e size v n xs)
    (Z : Nat → Prop) (A : Option Addr) (m c : Nat) (news : List Value) (hx : a.eval x = .slice A m c) (hr : Rd w Z size A m news) (h1 : ∀ u ∈ news, u.oneCell' = true)
    (h63 : n + m ≤ maxLen) (hbytes : (n + m) * bytes ≤ 140737488355328) (hbase : base ≤ w.heap.size)
    (h : ∀ v' w', w'.ownsRow base e size v' (n + m) (xs ++ news) → w.grownBy w' v.ownBlock → (v'.ownBlock = v.ownBlock ∨ v'.ownBlock = some w.heap.size) → wpList P ops Q rest (a.put o.dst v') w') : wpList P ops Q (o :: rest) a w :=
  wpList_plain hgd fun _ hK => wp_append_any w s x t ho base e i z size bytes ht hi hz hsize hby hzs hsz v n xs hs hown Z A m c news hx hr h1 h63 hbytes hbase fun v' w' h2 h3 h4 => hK _ _ (h v' w' h2 h3 h4)

theorem step_append_any {ops : Array Oper} {o : Oper} {a : Act} {K : Act → World → Prop} {Q : Exit → Act → World → Prop} {E : Prop} (hgd : o.guard = none) (s x : Operand) (t : TypeId)
    (ho : o.op = .call { callee := .builtin .append, args := #[s, x], argTypes := #[t, t] })
    (base : Nat) (e : TypeId) (i : TypeInfo) (z : Value) (size bytes : Nat) (ht : P.underlying t = some (.slice e)) (hi : P.info? e = some i) (hz : i.zero = some z)
    (hsize : i.size = size) (hby : i.bytes = bytes) (hzs : z.cells.size = size) (hsz : 0 < size)
    (v : Value) (n : Nat) (xs : List Value) (hs : a.eval s = v) (hown : w.ownsRow base e size v n xs)
    (Z : Nat → Prop) (A : Option Addr) (m c : Nat) (news : List Value) (hx : a.eval x = .slice A m c) (hr : Rd w Z size A m news) (h1 : ∀ u ∈ news, u.oneCell' = true)
    (h63 : n + m ≤ maxLen) (hbytes : (n + m) * bytes ≤ 140737488355328) (hbase : base ≤ w.heap.size)
    (h : ∀ v' w', w'.ownsRow base e size v' (n + m) (xs ++ news) → w.grownBy w' v.ownBlock → (v'.ownBlock = v.ownBlock ∨ v'.ownBlock = some w.heap.size) → K (a.put o.dst v') w') :
    if Region.wanted o (yielded ops a.tmps) = true then Oper.wp P o a w K Q else E := by
  have hw : Region.wanted o (yielded ops a.tmps) = true := by simp [Region.wanted, hgd]
  rw [if_pos hw]
  exact wp_append_any w s x t ho base e i z size bytes ht hi hz hsize hby hzs hsz v n xs hs hown Z A m c news hx hr h1 h63 hbytes hbase h
end

/-- a byte as a value -/
def bv (x : UInt8) : Value := .int .u8 (x.toNat : Int)
theorem bv_one (l : List UInt8) : ∀ u ∈ l.map bv, u.oneCell' = true := by
  intro u hu
  obtain ⟨x, _, rfl⟩ := List.mem_map.1 hu
  rfl
/-- the slice's address A reads as the bytes l -/
def By (w : World) (Z : Nat → Prop) (A : Option Addr) (l : List UInt8) : Prop := Rd w Z 1 A l.length (l.map bv)
/-- v owns a row of the bytes l -/
def OwB (w : World) (base : Nat) (v : Value) (l : List UInt8) : Prop := w.ownsRow base 5 1 v l.length (l.map bv)
theorem u8_info : (Try.prog.info? 5).map (fun i => (i.zero, i.size, i.bytes)) = some (some (.int .u8 0), 1, 1) := by kernel_rfl

theorem OwB.nil (w : World) (base : Nat) : OwB w base (.slice none 0 0) [] := World.ownsRow_nil _ _ _ _
theorem OwB.below {w w' : World} {base : Nat} {v : Value} {l : List UInt8} (h : OwB w base v l) (k : Below w.heap.size w w') : OwB w' base v l := own_below h k
theorem OwB.fr {w w' : World} {base : Nat} {v : Value} {l : List UInt8} {S : Nat → Prop} (h : OwB w base v l) (k : Fr S w w') (hs : ∀ g, v.ownBlock = some g → ¬ S g) : OwB w' base v l := own_fr h k hs
theorem OwB.alloc {w : World} {base : Nat} {v : Value} {l : List UInt8} (h : OwB w base v l) (o : Obj) : OwB (w.alloc o) base v l := World.ownsRow.alloc h o
theorem OwB.lit1 (w : World) {base : Nat} {b : UInt8} {x : Int} (hx : bv b = .int .u8 x) (hb : base ≤ w.heap.size) : OwB (w.alloc (.cells #[.int .u8 x] 5)) base (.slice (some ⟨w.heap.size, 0, none⟩) 1 1) [b] := by
  have := World.ownsRow_lit (base := base) (e := 5) (size := 1) w #[.int .u8 x] 1 hb (by simp [maxLen]) (by simp)
  unfold OwB
  rw [List.map_cons, List.map_nil, hx]
  exact this
/-- the form of an owned row of bytes -/
theorem OwB.form {w : World} {base : Nat} {v : Value} {l : List UInt8} (h : OwB w base v l) : ∃ A c, v = .slice A l.length c ∧ l.length ≤ c ∧ c ≤ maxLen ∧ (∀ b, ablk A = some b → base ≤ b ∧ b < w.heap.size ∧ v.ownBlock = some b) := by
  obtain ⟨A, c, h1, h2, h3, h4, _⟩ := own_form h
  exact ⟨A, c, h1, h2, h3, h4⟩
theorem OwB.rd {w : World} {base : Nat} {A : Option Addr} {c : Nat} {l : List UInt8} (h : OwB w base (.slice A l.length c) l) : By w (fun b => ablk A = some b) A l := Rd.of_own h (fun _ hb _ => hb)
theorem By.below {w w' : World} {Z : Nat → Prop} {A : Option Addr} {l : List UInt8} (h : By w Z A l) (k : Below w.heap.size w w') : By w' Z A l := Rd.below h k
theorem By.alloc {w : World} {Z : Nat → Prop} {A : Option Addr} {l : List UInt8} (h : By w Z A l) (o : Obj) : By (w.alloc o) Z A l := Rd.alloc h o
theorem By.fr {w w' : World} {Z S : Nat → Prop} {A : Option Addr} {l : List UInt8} (h : By w Z A l) (k : Fr S w w') (hs : ∀ b, b < w.heap.size → Z b → ¬ S b) : By w' Z A l := Rd.fr h k hs
theorem By.mono {w : World} {Z Z' : Nat → Prop} {A : Option Addr} {l : List UInt8} (h : By w Z A l) (hz : ∀ b, b < w.heap.size → Z b → Z' b) : By w Z' A l := Rd.mono h hz

theorem wpList_append_by {w : World} {ops : Array Oper} {rest : List Oper} {o : Oper} {a : Act} {Q : Exit → Act → World → Prop} (hgd : o.guard = none) (s x : Operand)
    (ho : o.op = .call { callee := .builtin .append, args := #[s, x], argTypes := #[52, 52] })
    {base : Nat} {v : Value} {l m : List UInt8} {Z : Nat → Prop} {A : Option Addr} {c : Nat} (hs : a.eval s = v) (hown : OwB w base v l) (hx : a.eval x = .slice A m.length c) (hr : By w Z A m)
    (hsum : l.length + m.length ≤ 140737488355328) (hbase : base ≤ w.heap.size)
    (h : ∀ (L : List UInt8) (A' : Option Addr) (c' : Nat) (w' : World), Hid (L = l ++ m) → OwB w' base (.slice A' L.length c') L → w.grownBy w' v.ownBlock → ((Value.slice A' L.length c').ownBlock = v.ownBlock ∨ (Value.slice A' L.length c').ownBlock = some w.heap.size) → wpList Try.prog ops Q rest (a.put o.dst (.slice A' L.length c')) w') : wpList Try.prog ops Q (o :: rest) a w := by
  obtain ⟨i0, hi0, hz0, hz1, hz2⟩ := info_parts u8_info
  refine wpList_append_any w hgd s x _ ho base 5 i0 _ 1 1 Try.underlying52 hi0 hz0 hz1 hz2 rfl (by omega) v l.length (l.map bv) hs hown Z A m.length c (m.map bv) hx hr (bv_one m) (by simp only [maxLen]; omega) (by omega) hbase ?_
  intro v' w' h1 h2 h3
  have ho : OwB w' base v' (l ++ m) := by
    unfold OwB
    rw [List.length_append, List.map_append]
    exact h1
  obtain ⟨A', c', rfl, _⟩ := ho.form
  exact h (l ++ m) A' c' w' rfl ho h2 h3
theorem step_append_by {w : World} {ops : Array Oper} {o : Oper} {a : Act} {K : Act → World → Prop} {Q : Exit → Act → World → Prop} {E : Prop} (hgd : o.guard = none) (s x : Operand)
    (ho : o.op = .call { callee := .builtin .append, args := #[s, x], argTypes := #[52, 52] })
    {base : Nat} {v : Value} {l m : List UInt8} {Z : Nat → Prop} {A : Option Addr} {c : Nat} (hs : a.eval s = v) (hown : OwB w base v l) (hx : a.eval x = .slice A m.length c) (hr : By w Z A m)
    (hsum : l.length + m.length ≤ 140737488355328) (hbase : base ≤ w.heap.size)
    (h : ∀ (L : List UInt8) (A' : Option Addr) (c' : Nat) (w' : World), Hid (L = l ++ m) → OwB w' base (.slice A' L.length c') L → w.grownBy w' v.ownBlock → ((Value.slice A' L.length c').ownBlock = v.ownBlock ∨ (Value.slice A' L.length c').ownBlock = some w.heap.size) → K (a.put o.dst (.slice A' L.length c')) w') :
    if Region.wanted o (yielded ops a.tmps) = true then Oper.wp Try.prog o a w K Q else E := by
  obtain ⟨i0, hi0, hz0, hz1, hz2⟩ := info_parts u8_info
  refine step_append_any w hgd s x _ ho base 5 i0 _ 1 1 Try.underlying52 hi0 hz0 hz1 hz2 rfl (by omega) v l.length (l.map bv) hs hown Z A m.length c (m.map bv) hx hr (bv_one m) (by simp only [maxLen]; omega) (by omega) hbase ?_
  intro v' w' h1 h2 h3
  have ho : OwB w' base v' (l ++ m) := by
    unfold OwB
    rw [List.length_append, List.map_append]
    exact h1
  obtain ⟨A', c', rfl, _⟩ := ho.form
  exact h (l ++ m) A' c' w' rfl ho h2 h3

/-- string(b) -/
theorem conv_by {w : World} {Z : Nat → Prop} {A : Option Addr} {l : List UInt8} (h : By w Z A l) (c : Nat) :
    (convert 52 9 (.slice A l.length c)).run Try.prog w = .ok (.string ⟨l.toArray⟩) w := by
  rcases A with _ | a
  · have hl : l = [] := by
      rcases l with _ | ⟨x, l⟩
      · rfl
      · obtain ⟨b, off, e, _⟩ := h.2 (by simp); cases e
    subst hl
    rw [run_convert_bytes_nil w 52 5 Try.underlying52 Try.underlying5 _ _ 9 Try.underlying9]
    rfl
  · rw [run_convert_bytes_string w 52 9 5 _ _ c Try.underlying52 Try.underlying5 Try.underlying9]
    have hn : l.map bv = (l.map fun x => (x.toNat : Int)).map (Value.int .u8) := by simp [bv, Function.comp_def]
    have hload : (loadCells a l.length).run Try.prog w = .ok ((l.map fun x => (x.toNat : Int)).map (Value.int .u8)).toArray w := by
      rw [← hn]
      have := run_loadCells_list (P := Try.prog) w a (l.map bv) (fun j v hj => by
        obtain ⟨b, off, e, _, _, hc⟩ := Rd.atj h hj
        injection e with e
        subst e
        rw [add_none]
        exact hc)
      rw [List.length_map] at this
      exact this
    rw [run_bytesToString w a l.length c _ hload, foldl_push_bytes]
    congr 2
    apply ByteArray.ext
    show ByteArray.empty.data ++ _ = _
    rw [show ByteArray.empty.data = #[] from rfl]
    simp [Function.comp_def]

/-- a byte slice as a value, and what it reads as -/
structure BV where
  A : Option Addr
  c : Nat
  l : List UInt8
abbrev BV.v (x : BV) : Value := .slice x.A x.l.length x.c
def BV.ok (w : World) (Z : Nat → Prop) (x : BV) : Prop := By w Z x.A x.l ∧ x.l.length ≤ x.c ∧ x.c ≤ maxLen
theorem BV.ok.by_ {w : World} {Z : Nat → Prop} {x : BV} (h : x.ok w Z) : By w Z x.A x.l := h.1
theorem BV.ok.fr {w w' : World} {Z S : Nat → Prop} {x : BV} (h : x.ok w Z) (k : Fr S w w') (hs : ∀ b, b < w.heap.size → Z b → ¬ S b) : x.ok w' Z := ⟨h.1.fr k hs, h.2⟩
theorem BV.ok.below {w w' : World} {Z : Nat → Prop} {x : BV} (h : x.ok w Z) (k : Below w.heap.size w w') : x.ok w' Z := ⟨h.1.below k, h.2⟩
theorem BV.ok.mono {w : World} {Z Z' : Nat → Prop} {x : BV} (h : x.ok w Z) (hz : ∀ b, b < w.heap.size → Z b → Z' b) : x.ok w Z' := ⟨h.1.mono hz, h.2⟩
/-- a fresh owned row as a byte slice -/
theorem OwB.bv_ {w : World} {base : Nat} {v : Value} {l : List UInt8} (h : OwB w base v l) : ∃ x : BV, v = x.v ∧ x.l = l ∧ x.ok w (fun b => v.ownBlock = some b) ∧ OwB w base x.v l := by
  obtain ⟨A, c, rfl, h1, h2, h3⟩ := h.form
  exact ⟨⟨A, c, l⟩, rfl, rfl, ⟨h.rd.mono (fun b hb hz => (h3 b hz).2.2), h1, h2⟩, h⟩
def u64v (n : Nat) : Value := .int .u64 (n : Int)
end Go.Proofs.Ytkeledbgmpienaa

/- Arguments opened: slices of whatever, structs, with the form's own reach. -/
namespace Go.Proofs.Ytkeledbgmpienaa
open Go.RowKit Go.WideShapes Go.ChangeShapes Go.ChangeAt Go.Deep

theorem bv_of {m : Nat} (h : m < 256) : bv (UInt8.ofNat m) = .int .u8 (m : Int) := by
  unfold bv
  rw [UInt8.toNat_ofNat', Nat.mod_eq_of_lt h]

section
variable {H : Type} {enc : TypeId × Value → H} {w : World} {spare : Nat → Bool} {held : Bool}

/-- a reading within the form's reach -/
def Within (t : TypeId) (x : DataW H × List MemPlace) : Prop := ∀ k ∈ x.1.weights Try.prog t, k ≤ reachBytes

theorem weightsAll_mem {P : Program} {e : TypeId} {d : DataW H} {k : Nat} (hk : k ∈ d.weights P e) : ∀ {l : List (DataW H)}, d ∈ l → k ∈ DataW.weightsAll P e l
  | x :: l, h => by
    rw [DataW.weightsAll, List.mem_append]
    rcases List.mem_cons.1 h with rfl | h
    · exact .inl hk
    · exact .inr (weightsAll_mem hk h)

theorem pick_list {α : Type} {p : Nat → α → Prop} : ∀ n, (∀ i, i < n → ∃ a, p i a) → ∃ l : List α, l.length = n ∧ ∀ i (hi : i < l.length), p i l[i]
  | 0, _ => ⟨[], rfl, by simp⟩
  | k + 1, h => by
    obtain ⟨l, h1, h2⟩ := pick_list k (fun i hi => h i (by omega))
    obtain ⟨al, hal⟩ := h k (by omega)
    refine ⟨l ++ [al], by simp [h1], fun i hi => ?_⟩
    rcases Nat.lt_or_ge i l.length with hlt | hge
    · rw [List.getElem_append_left hlt]; exact h2 i hlt
    · have : i = k := by simp at hi; omega
      subst this
      rw [List.getElem_append_right (by omega)]
      simpa [h1] using hal

theorem flat_at {α : Type} (f : α → List Value) (k : Nat) : ∀ (l : List α), (∀ x ∈ l, (f x).length = k) → ∀ (i j : Nat) (hi : i < l.length), j < k → (l.flatMap f)[i * k + j]? = (f l[i])[j]?
  | x :: l, h, 0, j, _, hj => by
    rw [List.flatMap_cons, List.getElem?_append_left (by rw [h x (by simp)]; omega)]
    simp
  | x :: l, h, i + 1, j, hi, hj => by
    have hx := h x (by simp)
    have e : (i + 1) * k + j - (f x).length = i * k + j := by rw [hx, Nat.add_mul]; omega
    rw [List.flatMap_cons, List.getElem?_append_right (by rw [hx, Nat.add_mul]; omega), e, flat_at f k l (fun y hy => h y (by simp [hy])) i j (by simpa using hi) hj]
    simp

theorem open_sl {α : Type} (f : α → List Value) (ok : α → Prop) (sz by_ : Nat) {t e : TypeId} (ht : Try.prog.underlying t = some (.slice e)) (hC : Try.prog.cellsOf e = sz) (hB : Try.prog.bytesOf e = by_) (hsz : 0 < sz)
    (hel : ∀ (n : Nat) (cs : List Value) (x : DataW H × List MemPlace), DataW.trod enc Try.prog w 0 spare held n e cs = some x → Within e x → ∃ a, cs = f a ∧ ok a)
    {n : Nat} {v : Value} {x : DataW H × List MemPlace} (h : DataW.trod enc Try.prog w 0 spare held n t [v] = some x) (hw : Within t x) :
    ∃ (A : Option Addr) (c : Nat) (l : List α), v = .slice A l.length c ∧ l.length ≤ c ∧ c ≤ maxLen ∧ Rd w (fun b => b < w.heap.size) sz A l.length (l.flatMap f) ∧ (∀ a ∈ l, ok a) ∧ l.length * by_ ≤ reachBytes := by
  rcases open_slice ht h with ⟨hcs, _⟩ | ⟨a, len, cap, m, n', D, Pl, hcs, _, hl, hm, hmm, hx, hi⟩
  · obtain rfl := List.singleton_inj.1 hcs
    exact ⟨none, 0, [], rfl, Nat.le_refl _, by simp [maxLen], Rd.nil, by simp, by simp⟩
  · obtain rfl := List.singleton_inj.1 hcs
    have hlm : len ≤ m := by rw [hmm]; split <;> omega
    have hwt : ∀ k, k ∈ (len + (m - len)) * by_ :: (DataW.weightsAll Try.prog e ((List.range len).map D) ++ DataW.weightsAll Try.prog e ((List.range (m - len)).map fun j => D (len + j))) → k ≤ reachBytes := by
      intro k hk
      refine hw k ?_
      rw [hx]
      simp only [DataW.weights, ht, List.length_map, List.length_range, hB]
      exact hk
    have hch : ∀ i, i < len → ∃ al : α, ok al ∧ w.cells? 0 (a.add (i * sz)) sz = some (f al) := by
      intro i hil
      obtain ⟨cs', h1, h2⟩ := hi i (by omega)
      obtain ⟨al, rfl, hok⟩ := hel n' cs' _ h2 (fun k hk => hwt k (by
        refine List.mem_cons_of_mem _ (List.mem_append.2 (.inl (weightsAll_mem hk ?_)))
        exact List.mem_map.2 ⟨i, List.mem_range.2 hil, rfl⟩))
      rw [hC] at h1
      exact ⟨al, hok, h1⟩
    obtain ⟨l, rfl, hpl⟩ := pick_list len hch
    have hok : ∀ al ∈ l, ok al := by
      intro al hal
      obtain ⟨i, hil, rfl⟩ := List.getElem_of_mem hal
      exact (hpl i hil).1
    have hcells : ∀ i (hi : i < l.length), w.cells? 0 (a.add (i * sz)) sz = some (f l[i]) := fun i hil => (hpl i hil).2
    have hfl : ∀ i (hi : i < l.length), (f l[i]).length = sz ∧ ∀ j u, (f l[i])[j]? = some u → w.cell? ((a.add (i * sz)).add j) = some u := by
      intro i hi
      obtain ⟨_, hcl, hat⟩ := World.cells?_some (hcells i hi)
      refine ⟨hcl, fun j u hu => ?_⟩
      have hj : j < (f l[i]).length := (List.getElem?_eq_some_iff.1 hu).1
      rw [hat j (by omega), hu]
    refine ⟨some a, cap, l, rfl, by omega, hm, ?_, hok, ?_⟩
    · have hget : ∀ (l' : List α), (∀ x ∈ l', (f x).length = sz) → (l'.flatMap f).length = l'.length * sz := by
        intro l' h'
        induction l' with
        | nil => simp
        | cons x l' ih => rw [List.flatMap_cons, List.length_append, h' x (by simp), ih (fun y hy => h' y (by simp [hy])), List.length_cons, Nat.add_mul]; omega
      have hall : ∀ x ∈ l, (f x).length = sz := by
        intro x hx
        obtain ⟨i, hi, rfl⟩ := List.getElem_of_mem hx
        exact (hfl i hi).1
      refine ⟨hget l hall, fun hpos => ?_⟩
      have hl0 : 0 < l.length := Nat.pos_of_mul_pos_right hpos
      obtain ⟨u0, hu0⟩ : ∃ u, (f l[0])[0]? = some u := ⟨_, List.getElem?_eq_getElem (by rw [(hfl 0 hl0).1]; exact hsz)⟩
      have h0 := (hfl 0 hl0).2 0 u0 hu0
      have ha0 : (a.add (0 * sz)).add 0 = a := by simp [Addr.add]
      rw [ha0] at h0
      have hspot : a = ⟨a.block, a.off, none⟩ := by
        obtain ⟨b, o, s⟩ := a
        rcases s with _ | s
        · rfl
        · exfalso
          unfold World.cell? at h0
          split at h0 <;> simp at h0
      refine ⟨a.block, a.off, by rw [← hspot], World.block_lt_of_cell? w a h0, World.block_lt_of_cell? w a h0, fun j u hu => ?_⟩
      have hj := (List.getElem?_eq_some_iff.1 hu).1
      rw [hget l hall] at hj
      have hi : j / sz < l.length := by rw [Nat.div_lt_iff_lt_mul hsz]; exact hj
      have hjm : j = j / sz * sz + j % sz := by rw [Nat.mul_comm]; exact (Nat.div_add_mod j sz).symm
      have hg := flat_at f sz l hall (j / sz) (j % sz) hi (Nat.mod_lt _ hsz)
      rw [← hjm, hu] at hg
      have := (hfl _ hi).2 (j % sz) u hg.symm
      rw [hspot, add_none, add_none, Nat.add_assoc, ← hjm] at this
      exact this
    · have := hwt _ (List.mem_cons_self)
      refine Nat.le_trans (Nat.mul_le_mul_right _ ?_) this
      omega

theorem flat_single {α : Type} (g : α → Value) : ∀ l : List α, (l.flatMap fun a => [g a]) = l.map g
  | [] => rfl
  | x :: l => by rw [List.flatMap_cons, flat_single g l]; rfl

/-- a []byte -/
theorem open_bv {n : Nat} {v : Value} {x : DataW H × List MemPlace} (h : DataW.trod enc Try.prog w 0 spare held n 52 [v] = some x) (hw : Within 52 x) :
    ∃ b : BV, v = b.v ∧ b.ok w (fun b => b < w.heap.size) ∧ b.l.length ≤ 140737488355328 := by
  obtain ⟨A, c, l, rfl, h1, h2, h3, _, h5⟩ := open_sl (w := w) (enc := enc) (spare := spare) (held := held) (fun x : UInt8 => [bv x]) (fun _ => True) 1 1 (t := 52) (e := 5) Try.underlying52 (by kernel_rfl) (by kernel_rfl) (by omega)
    (fun n cs x hx _ => by
      obtain ⟨m, rfl, _, hwf⟩ := DataW.trod_int Try.underlying5 hx
      have hb := u8_bd hwf
      refine ⟨UInt8.ofNat m.toNat, ?_, trivial⟩
      rw [bv_of (by omega)]
      congr 2
      omega) h hw
  refine ⟨⟨A, c, l⟩, rfl, ⟨?_, h1, h2⟩, ?_⟩
  · rw [flat_single] at h3; exact h3
  · have := reachBytes_lt
    simp only at *
    omega

/-- a struct of one-cell fields, as an element or a parameter -/
theorem open_st {t : TypeId} {fs : Array Field} (hs : Try.prog.underlying t = some (.struct fs)) (hone : oneCellFields Try.prog fs = true)
    {n : Nat} {cs : List Value} {x : DataW H × List MemPlace} (h : DataW.trod enc Try.prog w 0 spare held n t cs = some x) (hC : Try.prog.cellsOf t = fs.size) (hw : Within t x) :
    ∃ (ys : List (DataW H × List MemPlace)) (n' : Nat), cs.length = fs.size ∧ ys.length = fs.size ∧
      ∀ (j : Nat) (f : Field) (c : Value) (y : DataW H × List MemPlace), fs[j]? = some f → cs[j]? = some c → ys[j]? = some y → DataW.trod enc Try.prog w 0 spare held n' f.type [c] = some y ∧ Within f.type y := by
  obtain ⟨xs, n', _, hx, hl, hlen, hg⟩ := DataW.trod_struct hs h
  rw [hC] at hl
  refine ⟨xs, n', hl, hlen, fun j f c y hj hc hy => ⟨?_, ?_⟩⟩
  · obtain ⟨ho, hk⟩ := hone_of hone j f hj
    have h1 := hg j f hj
    rw [ho, hk] at h1
    have hjl : j < cs.length := by have := (Array.getElem?_eq_some_iff.1 hj).1; omega
    have e : (cs.drop j).take 1 = [c] := by
      rw [List.drop_eq_getElem_cons hjl, List.take_succ_cons, List.take_zero]
      rw [List.getElem?_eq_getElem hjl] at hc
      simpa using hc
    rw [e] at h1
    rw [h1, hy]
  · intro k hk
    refine hw k ?_
    rw [hx]
    simp only [DataW.weights, hs]
    refine DataW.weights_mem_each (j := j) (t := f.type) (d := y.1) ?_ ?_ k hk
    · rw [List.getElem?_map]
      have : fs.toList[j]? = some f := by simpa using hj
      rw [this]; rfl
    · rw [List.getElem?_map, hy]; rfl

theorem list4 {α : Type} {l : List α} (h : l.length = 4) : ∃ a0 a1 a2 a3, l = [a0, a1, a2, a3] := by
  match l, h with
  | [a0, a1, a2, a3], _ => exact ⟨_, _, _, _, rfl⟩
theorem within_of {ts : List TypeId} {ds : List (DataW H)} {p : List MemPlace} (h : (DataW.weightsEach Try.prog ts ds).all (· ≤ reachBytes) = true) {j : Nat} {t : TypeId} {d : DataW H} (ht : ts[j]? = some t) (hd : ds[j]? = some d) : Within t (d, p) := by
  intro k hk
  have := List.all_eq_true.1 h _ (DataW.weights_mem_each ht hd k hk)
  simpa using this
end
end Go.Proofs.Ytkeledbgmpienaa
