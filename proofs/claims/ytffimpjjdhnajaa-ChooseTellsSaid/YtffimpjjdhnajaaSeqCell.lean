/- A range over an iterator that keeps its state in one captured variable (a cell of block Bn): what the caller owes. No program. -/
import Derived.RangeFuncNested
import Derived.RangeFuncBound
import Derived.RangeFuncCalls
import Derived.RangeFuncLeaves
import Derived.WalkKit
namespace Go.Proofs.Ytffimpjjdhnajaa
open Go.RowKit

/-- J stays where block Bn turns, and where blocks are laid -/
def Bends {α : Type} (Bn : Nat) (J : List α → World → Prop) : Prop := ∀ s A B, J s A → A.grownBy B (some Bn) → J s B
/-- what the function g does when it is called with a yield: it yields all of xs, or till one round says no more -/
def Yields {α : Type} (P : Program) (g : Nat) (lb : Array Value) (Bn : Nat) (enc : α → Value) (xs : List α) (W : World) : Prop :=
  ∀ (l : Nat) (J Jx : List α → World → Prop), Bends Bn J → Bends Bn Jx →
    (∀ pre x W1, J pre W1 → pre ++ [x] <+: xs → YieldAt Fence.wide 0 P l #[enc x] W1 fun e W2 =>
      (e = .returned (.bool true) ∧ J (pre ++ [x]) W2 ∧ W2.heap[Bn]? = W1.heap[Bn]?) ∨ (e = .returned (.bool false) ∧ Jx (pre ++ [x]) W2)) →
    J [] W → CallsIn Fence.wide 1 P g (#[.func (.yield l) #[] #[]] ++ lb) W fun e W2 => (∃ v, e = .returned v) ∧ (J xs W2 ∨ ∃ pre, pre <+: xs ∧ Jx pre W2)
/-- blocks of the loop's own book and the captured variable's lie as they lay -/
def Kept (Bn D : Nat) (W W' : World) : Prop := ∀ k, k = Bn ∨ k = D ∨ k = D + 1 → W'.heap[k]? = W.heap[k]?
/-- how a round may be left -/
def roundP {α : Type} (Bn D : Nat) (I Ix : List α → World → Prop) (xs : List α) (W : World) : Exit → Act → World → Prop
  | .normal, _, W' => Kept Bn D W W' ∧ I xs W'
  | .ret, _, W' => Kept Bn D W W' ∧ Ix xs W'
  | _, _, _ => False
/-- what an invariant of the caller's must stand -/
def Stands {α : Type} (Bn D : Nat) (I : List α → World → Prop) : Prop :=
  ∀ s A B r, I s A → A.grownBy B (some r) → r = Bn ∨ (D ≤ r ∧ ∃ o : Obj, A.heap[r]? = some o ∧ o.isCells = false) → I s B

theorem Stands.alloc {α : Type} {Bn D : Nat} {I : List α → World → Prop} (h : Stands Bn D I) {s : List α} {W : World} (o : Obj) (hs : I s W) : I s (W.alloc o) :=
  h s W _ Bn hs (World.grownBy_alloc W o _) (.inl rfl)
theorem Stands.put {α : Type} {Bn D : Nat} {I : List α → World → Prop} (h : Stands Bn D I) {s : List α} {W : World} {l : Nat} {o : Obj} (o' : Obj) (hs : I s W) (hD : D ≤ l) (hl : W.heap[l]? = some o) (ho : o.isCells = false) : I s (W.putObj l o') :=
  h s W _ l hs (grownBy_putObj' W l o') (.inr ⟨hD, o, hl, ho⟩)

theorem wp_rangeCell {α : Type} {P : Program} {g : Operand} {p : Tmp} {assign body : Code} {Q : Exit → Act → World → Prop} {a : Act} {w : World} {gf : Nat} {lb : Array Value} (hg : a.eval g = .func (.func gf) #[] lb)
    (eg : ∀ args w, (callFunc gf args).run P w = .ok (.enter gf args) w) {enc : α → Value} {xs : List α} {Bn : Nat} (hBn : Bn < w.heap.size) (hit : ∀ W, W.heap[Bn]? = w.heap[Bn]? → Yields P gf lb Bn enc xs W)
    (I Ix : List α → World → Prop) (hI : Stands Bn w.heap.size I) (hIx : Stands Bn w.heap.size Ix) (h0 : I [] w) (a₁ : α → Act)
    (hassign : ∀ (l : Nat) (x : α) (W : World) (K : Act → World → Prop), K (a₁ x) W →
      assign.wpIn (Fence.wide.inRound l) 0 P (Exit.then K (fun _ _ _ => False)) { tmps := (#[p].zip #[enc x]).foldl (fun t (p, v) => t.setIfInBounds p v) a.tmps, defers := [] } W)
    (hbody : ∀ (l : Nat) (pre : List α) (x : α) (W : World), I pre W → pre ++ [x] <+: xs → w.heap.size + 2 ≤ W.heap.size → body.wpIn (Fence.wide.inRound l) 0 P (roundP Bn w.heap.size I Ix (pre ++ [x]) W) (a₁ x) W)
    (hdone : ∀ W, I xs W → W.heap[w.heap.size]? = some (.deferred (some [])) → Q .normal { a with defers := { target := .collected w.heap.size, args := #[] } :: a.defers } W)
    (hstop : ∀ pre W, pre <+: xs → Ix pre W → W.heap[w.heap.size]? = some (.deferred (some [])) → Code.ret.wpIn Fence.wide 2 P Q { a with defers := { target := .collected w.heap.size, args := #[] } :: a.defers } W) :
    (Code.rangeFunc g #[p] assign body).wpIn Fence.wide 2 P Q a w := by
  refine wpIn_rangeFunc fun fn _ => ?_
  -- the loop's record, in any state; the world behind the two new blocks
  let rec_ : LoopState → Option Code → Obj := fun st pe => .loop { state := st, pending := pe, fn, tmps := a.tmps, params := #[p], assign, body, defers := w.heap.size }
  obtain ⟨V, hV⟩ : ∃ V, (w.alloc (.deferred (some []))).alloc (rec_ .ready none) = V := ⟨_, rfl⟩
  have v1 : V.heap[w.heap.size + 1]? = some (rec_ .ready none) := by
    rw [← hV]; have := World.alloc_heap_new (w.alloc (.deferred (some []))) (rec_ .ready none); rwa [World.size_alloc] at this
  have v0 : V.heap[w.heap.size]? = some (.deferred (some [])) := by
    rw [← hV]; exact (Below.heap_alloc _ _ _ (by simp)).trans (World.alloc_heap_new w _)
  have vB : V.heap[Bn]? = w.heap[Bn]? := by
    rw [← hV]; exact (Below.heap_alloc _ _ _ (by simp; omega)).trans (Below.heap_alloc _ _ _ hBn)
  have vI : I [] V := by rw [← hV]; exact hI.alloc _ (hI.alloc _ h0)
  refine ⟨w.heap.size + 1, [{ target := .collected w.heap.size, args := #[] }], V, { target := .fn (.func gf) lb, args := #[.func (.yield (w.heap.size + 1)) #[] #[]] }, V, gf,
    #[.func (.yield (w.heap.size + 1)) #[] #[]] ++ lb, V, ?_, ?_, fun _ _ => trivial, ?_, (fun _ => by omega), ?_⟩
  · rw [← hV]; exact run_enterLoop_outer _ _ _ _ _
  · simp only [resolve, hg]
    simp [go_sem]
  · simp [invoke, go_sem, eg]
  -- J, Jx: the caller's, and the book
  have turn : ∀ {A B : World} {k : Nat}, A.grownBy B (some Bn) → k ≠ Bn → ∀ {o : Obj}, A.heap[k]? = some o → B.heap[k]? = some o := fun hgr hk _ ho =>
    (hgr.block _ (Array.getElem?_eq_some_iff.1 ho).1 (fun e => hk (by cases e; rfl))).trans ho
  refine (hit V vB (w.heap.size + 1)
    (fun pre W => I pre W ∧ W.heap[w.heap.size + 1]? = some (rec_ .ready none) ∧ W.heap[w.heap.size]? = some (.deferred (some [])))
    (fun pre W => Ix pre W ∧ W.heap[w.heap.size + 1]? = some (rec_ .done (some .ret)) ∧ W.heap[w.heap.size]? = some (.deferred (some [])))
    (fun s A B h hgr => ⟨hI s A B Bn h.1 hgr (.inl rfl), turn hgr (by omega) h.2.1, turn hgr (by omega) h.2.2⟩)
    (fun s A B h hgr => ⟨hIx s A B Bn h.1 hgr (.inl rfl), turn hgr (by omega) h.2.1, turn hgr (by omega) h.2.2⟩) ?_ ⟨vI, v1, v0⟩).mono ?_
  · rintro pre x W ⟨hi, hl, hk⟩ hpre
    have hlt : w.heap.size + 1 < W.heap.size := (Array.getElem?_eq_some_iff.1 hl).1
    refine ⟨fn, _, assign, body, run_yield (P := P) (args := #[enc x]) hl rfl, roundIn_of_wpIn trivial (hassign _ x W _ ?_)⟩
    refine ⟨_, run_beginRound hl rfl, ?_⟩
    obtain ⟨U, hU⟩ : ∃ U, W.putObj (w.heap.size + 1) (rec_ .busy none) = U := ⟨_, rfl⟩
    have u1 : U.heap[w.heap.size + 1]? = some (rec_ .busy none) := by rw [← hU]; exact World.putObj_heap_same hlt
    have u0 : U.heap[w.heap.size]? = some (.deferred (some [])) := by rw [← hU]; exact (World.putObj_heap_other (by omega)).trans hk
    have uB : U.heap[Bn]? = W.heap[Bn]? := by rw [← hU]; exact World.putObj_heap_other (by omega)
    have uI : I pre U := by rw [← hU]; exact hI.put _ hi (by omega) hl rfl
    show body.wpIn _ _ _ _ _ (W.putObj (w.heap.size + 1) (rec_ .busy none))
    rw [hU]
    refine wpIn_mono (hbody _ pre x U uI hpre (Array.getElem?_eq_some_iff.1 u1).1) ?_
    rintro e a3 W3 hp
    cases e with
    | normal =>
      obtain ⟨hkp, hi3⟩ := hp
      have l3 : W3.heap[w.heap.size + 1]? = some (rec_ .busy none) := (hkp _ (.inr (.inr rfl))).trans u1
      refine ⟨_, _, run_endRound (P := P) none l3, .inl ⟨rfl, ⟨hI.put _ hi3 (by omega) l3 rfl, World.putObj_heap_same (Array.getElem?_eq_some_iff.1 l3).1, ?_⟩, ?_⟩⟩
      · exact (World.putObj_heap_other (by omega)).trans ((hkp _ (.inr (.inl rfl))).trans u0)
      · exact (World.putObj_heap_other (by omega)).trans ((hkp _ (.inl rfl)).trans uB)
    | ret =>
      obtain ⟨hkp, hi3⟩ := hp
      have l3 : W3.heap[w.heap.size + 1]? = some (rec_ .busy none) := (hkp _ (.inr (.inr rfl))).trans u1
      refine ⟨_, _, run_endRound (P := P) (some .ret) l3, .inr ⟨rfl, hIx.put _ hi3 (by omega) l3 rfl, World.putObj_heap_same (Array.getElem?_eq_some_iff.1 l3).1, ?_⟩⟩
      exact (World.putObj_heap_other (by omega)).trans ((hkp _ (.inr (.inl rfl))).trans u0)
    | exit id => exact hp.elim
    | goto t => exact hp.elim
    | panic ch => exact hp.elim
    | outgrown => exact hp.elim
  · rintro e W2 ⟨⟨v, rfl⟩, ⟨hi, hl, hk⟩ | ⟨pre, hpre, hi, hl, hk⟩⟩
    · exact ⟨none, _, run_endLoop (P := P) hl (fun e => by cases e), hdone _ (hI.put _ hi (by omega) hl rfl) ((World.putObj_heap_other (by omega)).trans hk)⟩
    · exact ⟨some .ret, _, run_endLoop (P := P) hl (fun e => by cases e), hstop pre _ hpre (hIx.put _ hi (by omega) hl rfl) ((World.putObj_heap_other (by omega)).trans hk)⟩
end Go.Proofs.Ytffimpjjdhnajaa
