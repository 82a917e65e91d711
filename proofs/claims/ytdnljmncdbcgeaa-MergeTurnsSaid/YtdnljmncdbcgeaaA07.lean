/- Drawn regions in the text's order: operations that only tell what stays so (they may come at any time), others each of which is alone when it comes, and a tail behind all of them. No program. -/
import Derived.Test.YtdnljmncdbcgeaaA06
import Derived.Shelf.SlSortCmp.NoneTotal
import Derived.Ground.SlsfProg
import Derived.Shelf.SlMaps.Clone
import Derived.Ground.SlmcProg
import Derived.Shelf.SlIter.Nil
import Derived.Ground.GgzProg
import Derived.Test.YtdnljmncdbcgeaaProg
import Derived.Shelf.Small.Bits
import Derived.Sort.OwnSorted

namespace Go.Proofs.Ytdnljmncdbcgeaa
open Go.RowKit

section
variable {P : Program} {ops : Array Oper} {md : Region.Mode} {C : World → Prop}

/-- nothing but a value -/
def Qz : Exit → Act → World → Prop := fun _ _ _ => False
theorem letsOut_qz : ¬ LetsOut Qz := fun h => by
  obtain ⟨_, _, h⟩ := h
  exact h
theorem Oper.wp_of_z {o : Oper} {a : Act} {w : World} {K : Act → World → Prop} {Q : Exit → Act → World → Prop} (h : o.wp P a w K Qz) : o.wp P a w K Q := by
  unfold Oper.wp at *
  generalize (execOp a.eval o).run P w = r at *
  cases r with
  | ok n w' =>
    cases n <;> simp only [Oper.upon] at h ⊢
    case enter f args =>
      refine Calls.mono h fun e w'' he => ?_
      cases e with
      | returned u => exact he
      | panicked c => exact absurd he (by simp [Qz])
      | outgrown => exact absurd he letsOut_qz
    all_goals first | exact h | exact absurd h (by simp)
  | halt x w' =>
    cases x <;> simp only [Oper.upon] at h ⊢
    case panic u => exact absurd h (by simp [Qz])
theorem wpOp_of_z {i : Nat} {a : Act} {w : World} {K : Act → World → Prop} {Q : Exit → Act → World → Prop} (h : wpOp P ops Qz i K a w) : wpOp P ops Q i K a w := by
  unfold wpOp at *
  split
  · rename_i h0; simpa [h0] using h
  · rename_i o ho
    simp only [ho] at h
    split
    · rename_i hw
      simp only [hw, if_true] at h
      rcases h with h | ⟨_, h⟩
      · exact .inl (Oper.wp_of_z h)
      · exact absurd h letsOut_qz
    · rename_i hw; simpa [hw] using h

/-- in every world of the class it tells v, and nothing turns -/
def StC (P : Program) (ops : Array Oper) (C : World → Prop) (o : Oper) (v : Value) (a : Act) : Prop :=
  (Region.wanted o (yielded ops a.tmps) = true ∧ ∀ w, C w → (execOp a.eval o).run P w = .ok (.value v) w) ∨ (Region.wanted o (yielded ops a.tmps) = false ∧ v = undef)
theorem StC.of_same {o : Oper} {v : Value} {a a' : Act} (hy : StC P ops C o v a) (he : execOp a'.eval o = execOp a.eval o)
    (hw : Region.wanted o (yielded ops a'.tmps) = Region.wanted o (yielded ops a.tmps)) : StC P ops C o v a' := by
  unfold StC at *
  rw [he, hw]
  exact hy
theorem StC.wpOp {i : Nat} {o : Oper} {v : Value} {a : Act} {w : World} {K : Act → World → Prop} {Q : Exit → Act → World → Prop} (hi : ops[i]? = some o) (hy : StC P ops C o v a) (hw : C w)
    (hK : K (a.put o.dst v) w) : wpOp P ops Q i K a w := by
  unfold Go.wpOp
  simp only [hi]
  rcases hy with ⟨hwt, hv⟩ | ⟨hwt, rfl⟩
  · simp only [hwt, if_true, Oper.wp, hv w hw, Oper.upon]
    exact .inl hK
  · simp only [hwt, Bool.false_eq_true, if_false]
    exact hK

theorem wpOp_putC {j : Nat} {oi oj : Oper} {v : Value} (hj : ops[j]? = some oj) (hap : oi.apart ops oj = true)
    (hsi : ∀ cs b, oi.op ≠ .select cs b) (hsj : ∀ cs b, oj.op ≠ .select cs b) {K : Act → World → Prop} {a : Act} {w : World}
    (hy : StC P ops C oi v a) (h : wpOp P ops Qz j K (a.put oi.dst v) w) :
    wpOp P ops Qz j (fun a' w' => StC P ops C oi v a' ∧ K (a'.put oi.dst v) w') a w := by
  obtain ⟨h1, h2, h3⟩ := Oper.apart_spec hap
  have keep : ∀ (a : Act), StC P ops C oi v a → ∀ u, StC P ops C oi v (a.put oj.dst u) := fun a hy u =>
    hy.of_same (execOp_put oi hsi a oj.dst u h3) (wanted_put oi a oj.dst u h3)
  have keepD : ∀ d, StC P ops C oi v { a with defers := d :: a.defers } := fun d => hy.of_same rfl rfl
  unfold wpOp at *
  simp only [hj] at *
  rw [wanted_put oj a oi.dst v h1] at h
  split
  · rename_i hw
    simp only [hw, if_true] at h
    rcases h with h | ⟨_, hlets⟩
    case inr => exact absurd hlets letsOut_qz
    refine .inl ?_
    unfold Oper.wp at *
    rw [execOp_put oj hsj a oi.dst v h1] at h
    generalize (execOp a.eval oj).run P w = r at *
    cases r with
    | ok n w' =>
      cases n <;> simp only [Oper.upon] at h ⊢
      case value u => exact ⟨keep a hy u, by rw [← Act.put_comm a v u h2]; exact h⟩
      case skip => exact ⟨keep a hy _, by rw [← Act.put_comm a v undef h2]; exact h⟩
      case defer d =>
        refine ⟨keep _ (keepD d) _, ?_⟩
        rw [← Act.put_comm _ v undef h2, ← Act.put_defers]
        exact h
      case enter f args =>
        refine Calls.mono h fun e w'' he => ?_
        cases e with
        | returned u => exact ⟨keep a hy u, by rw [← Act.put_comm a v u h2]; exact he⟩
        | panicked c => exact absurd he (by simp [Qz])
        | outgrown => exact he
      case row row args => exact Rows.mono h fun u w'' he => ⟨keep a hy u, by rw [← Act.put_comm a v u h2]; exact he⟩
    | halt x w' =>
      cases x <;> simp only [Oper.upon] at h ⊢
      case panic u => exact absurd h (by simp [Qz])
  · rename_i hw
    simp only [hw] at h
    exact ⟨keep a hy _, by rw [← Act.put_comm a v undef h2]; exact h⟩

/-- so many operations below m, each of which may come up, then E -/
def wpAnyT (P : Program) (md : Region.Mode) (ops : Array Oper) (C : World → Prop) (m : Nat) (E : Array Bool → Act → World → Prop) : Nat → Array Bool → Act → World → Prop
  | 0, listed, a, w => C w ∧ (∀ j ∈ Region.ready md ops listed, m ≤ j) ∧ E listed a w
  | k + 1, listed, a, w => C w ∧ Region.ready md ops listed ≠ [] ∧ ∀ i ∈ Region.ready md ops listed, i < m ∧ wpOp P ops Qz i (wpAnyT P md ops C m E k (listed.setIfInBounds i true)) a w
theorem wpAnyT.c {m k : Nat} {E : Array Bool → Act → World → Prop} {listed : Array Bool} {a : Act} {w : World} (h : wpAnyT P md ops C m E k listed a w) : C w := by
  cases k with
  | zero => exact h.1
  | succ k => exact h.1

theorem wpAnyT_first {m i : Nat} {oi : Oper} {v : Value} {E : Array Bool → Act → World → Prop} (hi : ops[i]? = some oi) (him : i < m) (hsel : ∀ (j : Nat) (o : Oper) cs b, ops[j]? = some o → o.op ≠ .select cs b) (hT : TailWaitsB md ops m) :
    ∀ (fuel : Nat) (listed : Array Bool) (a : Act) (w : World), HeadInv md ops m listed →
      (∀ j oj, ops[j]? = some oj → j ≠ i → listed.getD j true = false → (∀ e ∈ oj.after, Region.binds md e = true → e.on ≠ i) → oi.apart ops oj = true) →
      i ∈ Region.ready md ops listed → StC P ops C oi v a →
      wpAnyT P md ops C m E fuel (listed.setIfInBounds i true) (a.put oi.dst v) w → wpAnyT P md ops C m E (fuel + 1) listed a w := by
  intro fuel
  induction fuel with
  | zero =>
    intro listed a w inv _ hr hy H
    refine ⟨H.c, fun h => (by rw [h] at hr; cases hr), fun j hj => ?_⟩
    by_cases hji : j = i
    · subst hji; exact ⟨him, hy.wpOp hi H.c H⟩
    · have h1 := H.2.1 j (ready_mono hj hji)
      have h2 := hT listed inv i him (mem_ready.1 hr).1 j hj
      omega
  | succ fuel ih =>
    intro listed a w inv hfree hr hy H
    refine ⟨H.c, fun h => (by rw [h] at hr; cases hr), fun j hj => ?_⟩
    by_cases hji : j = i
    · subst hji; exact ⟨him, hy.wpOp hi H.c H⟩
    · obtain ⟨hjm, h1⟩ := H.2.2 j (ready_mono hj hji)
      obtain ⟨hjun, oj, hoj, hall⟩ := mem_ready.1 hj
      have hnot : ∀ e ∈ oj.after, Region.binds md e = true → e.on ≠ i := fun e he hb heq => by
        have h1 := hall e he hb
        rw [heq, getD_both (mem_ready.1 hr).1] at h1
        cases h1
      have h2 := wpOp_putC hoj (hfree j oj hoj hji hjun hnot) (fun cs b => hsel i oi cs b hi) (fun cs b => hsel j oj cs b hoj) hy h1
      have hfree' : ∀ k ok, ops[k]? = some ok → k ≠ i → (listed.setIfInBounds j true).getD k true = false →
          (∀ e ∈ ok.after, Region.binds md e = true → e.on ≠ i) → oi.apart ops ok = true := fun k ok hk hki hun hno => by
        refine hfree k ok hk hki ?_ hno
        by_cases hjk : j = k
        · subst hjk; exact hjun
        · rw [getD_set_ne true hjk] at hun; exact hun
      refine ⟨hjm, wpOp_mono (fun a' w' h3 => ih (listed.setIfInBounds j true) a' w' (inv.set hj hjm) hfree' (ready_mono hr (Ne.symm hji)) h3.1 ?_) h2⟩
      rw [Array.setIfInBounds_comm _ _ hji]
      exact h3.2

theorem wpAny_of_T {m g : Nat} {E : Array Bool → Act → World → Prop} {Q : Exit → Act → World → Prop} (hE : ∀ listed a w, E listed a w → wpAny P md ops Q g listed a w) :
    ∀ (k : Nat) (listed : Array Bool) (a : Act) (w : World), wpAnyT P md ops C m E k listed a w → wpAny P md ops Q (k + g) listed a w
  | 0, listed, a, w, h => by rw [Nat.zero_add]; exact hE _ _ _ h.2.2
  | k + 1, listed, a, w, h => by
    rw [show k + 1 + g = (k + g) + 1 by omega]
    exact ⟨fun h0 => absurd h0 h.2.1, fun j hj => wpOp_mono (fun a' w' h' => wpAny_of_T hE k _ a' w' h') (wpOp_of_z (h.2.2 j hj).2)⟩

/-- the walk in the text's order: true: it only tells; false: it is alone -/
def wpMix (P : Program) (ops : Array Oper) (C : World → Prop) (E : Act → World → Prop) : List Bool → List Oper → Act → World → Prop
  | [], [], a, w => C w ∧ E a w
  | true :: ks, o :: l, a, w => ∃ v, StC P ops C o v a ∧ wpMix P ops C E ks l (a.put o.dst v) w
  | false :: ks, o :: l, a, w => C w ∧ ((Region.wanted o (yielded ops a.tmps) = true ∧ o.wp P a w (wpMix P ops C E ks l) Qz) ∨ (Region.wanted o (yielded ops a.tmps) = false ∧ wpMix P ops C E ks l (a.put o.dst undef) w))
  | _, _, _, _ => False
/-- nobody looks into it -/
structure MixW (P : Program) (ops : Array Oper) (C : World → Prop) (E : Act → World → Prop) (ks : List Bool) (l : List Oper) (a : Act) (w : World) : Prop where
  go : wpMix P ops C E ks l a w

def mixB (md : Region.Mode) (ops : Array Oper) (g : Nat) : List Bool → Nat → Array Bool → Bool
  | [], k, listed => Region.seqB md ops g k listed
  | true :: ks, k, listed => (Region.ready md ops listed).contains k && Region.free md ops listed k && mixB md ops g ks (k + 1) (listed.setIfInBounds k true)
  | false :: ks, k, listed => decide (Region.ready md ops listed = [k]) && mixB md ops g ks (k + 1) (listed.setIfInBounds k true)

theorem mix_lex {m g : Nat} {Lq : Act → World → Prop} (hsel : ∀ (j : Nat) (o : Oper) cs b, ops[j]? = some o → o.op ≠ .select cs b) (hT : TailWaitsB md ops m) :
    ∀ (ks : List Bool) (l : List Oper) (k : Nat) (listed : Array Bool) (a : Act) (w : World), (∀ j, j < l.length → l[j]? = ops[k + j]?) → k + l.length = m → HeadInv md ops m listed →
    mixB md ops g ks k listed = true → wpMix P ops C Lq ks l a w →
    wpAnyT P md ops C m (fun listed' a' w' => Region.seqB md ops g m listed' = true ∧ Lq a' w') l.length listed a w
  | [], [], k, listed, a, w, _, hk, _, hB, h => by
    have : k = m := by simpa using hk
    subst this
    exact ⟨h.1, seqB_ready hB, hB, h.2⟩
  | true :: ks, o :: l, k, listed, a, w, hl, hk, inv, hB, h => by
    have h0 : ops[k]? = some o := by simpa using (hl 0 (by simp)).symm
    simp only [mixB, Bool.and_eq_true] at hB
    obtain ⟨⟨hr, hf⟩, hB'⟩ := hB
    have hkm : k < m := by simp only [List.length_cons] at hk; omega
    have hr' : k ∈ Region.ready md ops listed := by simpa using hr
    obtain ⟨v, hy, h'⟩ := h
    exact wpAnyT_first h0 hkm hsel hT _ listed a w inv (Region.free_spec h0 hf) hr' hy
      (mix_lex hsel hT ks l (k + 1) _ _ w (fun j hj => by have := hl (j + 1) (by simp; omega); simpa [Nat.add_assoc, Nat.add_comm 1 j] using this) (by simp only [List.length_cons] at hk; omega) (inv.set hr' hkm) hB' h')
  | false :: ks, o :: l, k, listed, a, w, hl, hk, inv, hB, h => by
    have h0 : ops[k]? = some o := by simpa using (hl 0 (by simp)).symm
    simp only [mixB, Bool.and_eq_true, decide_eq_true_eq] at hB
    obtain ⟨hr, hB'⟩ := hB
    have hkm : k < m := by simp only [List.length_cons] at hk; omega
    obtain ⟨hc, h'⟩ := h
    refine ⟨hc, fun h1 => (by rw [hr] at h1; cases h1), fun i hi => ?_⟩
    have hi' := hi
    rw [hr] at hi
    have hik : i = k := by simpa using hi
    subst hik
    refine ⟨hkm, ?_⟩
    have rec_ : ∀ a' w', wpMix P ops C Lq ks l a' w' → wpAnyT P md ops C m (fun listed' a' w' => Region.seqB md ops g m listed' = true ∧ Lq a' w') l.length (listed.setIfInBounds i true) a' w' := fun a' w' h2 =>
      mix_lex hsel hT ks l (i + 1) _ a' w' (fun j hj => by have := hl (j + 1) (by simp; omega); simpa [Nat.add_assoc, Nat.add_comm 1 j] using this) (by simp only [List.length_cons] at hk; omega) (inv.set hi' hkm) hB' h2
    unfold wpOp
    simp only [h0]
    rcases h' with ⟨hw, h'⟩ | ⟨hw, h'⟩
    · simp only [hw, if_true]
      exact .inl (Oper.wp_mono rec_ h')
    · simp only [hw, Bool.false_eq_true, if_false]
      exact rec_ _ _ h'
  | [], _ :: _, _, _, _, _, _, _, _, _, h => h.elim
  | true :: _, [], _, _, _, _, _, _, _, _, h => h.elim
  | false :: _, [], _, _, _, _, _, _, _, _, h => h.elim

/-- the first operations by kinds, the rest one behind the other -/
theorem wp_region_m {id : Nat} {Q : Exit → Act → World → Prop} {a : Act} {w : World} {l : List Oper} (ks : List Bool) (C : World → Prop) (hm : P.follows .mixedOrders = true)
    (hB : (tailOkB l.toArray ks.length && mixB .any l.toArray (l.toArray.size - ks.length) ks 0 (Array.replicate l.toArray.size false)) = true)
    (h : MixW P l.toArray C (fun a' w' => wpList P l.toArray Q (l.drop ks.length) a' w') ks (l.take ks.length) a w.drew) : (Code.region id l.toArray true).wp P Q a w := by
  rw [Bool.and_eq_true] at hB
  obtain ⟨hok, hlex⟩ := hB
  obtain ⟨hsel, hnl, hT⟩ := tailOkB_spec hok
  have htl : (l.take ks.length).length = ks.length := by simp at hnl ⊢; omega
  have hdl : (l.drop ks.length).length = l.toArray.size - ks.length := by simp
  have H := mix_lex (P := P) (md := .any) (m := ks.length) (g := l.toArray.size - ks.length) (Region.noSelect_spec hsel) hT ks (l.take ks.length) 0 _ a w.drew (fun j hj => by
    have hj' : j < ks.length := by rw [htl] at hj; exact hj
    simp [hj']) (by rw [htl]; omega) (inv_new ks.length) hlex h.go
  refine wp_region_any hm ?_
  have := wpAny_of_T (Q := Q) (g := l.toArray.size - ks.length) (fun listed a' w' hL => by
    have := wpAny_of_seq (md := .any) (Q' := Q) (l.drop ks.length) ks.length listed a' w' (fun j => by simp [List.getElem?_drop]) (by rw [hdl]; exact hL.1) hL.2
    rwa [hdl] at this) _ _ _ _ H
  rw [htl, show ks.length + (l.toArray.size - ks.length) = l.toArray.size by omega] at this
  exact this

variable {E : Act → World → Prop} {ks : List Bool} {o : Oper} {rest : List Oper} {a : Act} {w : World}
theorem mx_skip (hw : Region.wanted o (yielded ops a.tmps) = false) (h : ∃ a', a.put o.dst undef = a' ∧ MixW P ops C E ks rest a' w) : MixW P ops C E (true :: ks) (o :: rest) a w := by
  obtain ⟨a', ha, h⟩ := h
  exact ⟨undef, .inr ⟨hw, rfl⟩, by rw [ha]; exact h.go⟩
theorem mx_val (hw : Region.wanted o (yielded ops a.tmps) = true) (h : ∃ v, (∀ w, C w → (execOp a.eval o).run P w = .ok (.value v) w) ∧ ∃ a', a.put o.dst v = a' ∧ MixW P ops C E ks rest a' w) : MixW P ops C E (true :: ks) (o :: rest) a w := by
  obtain ⟨v, hv, a', ha, h⟩ := h
  exact ⟨v, .inl ⟨hw, hv⟩, by rw [ha]; exact h.go⟩
theorem mx_move (x : Operand) (hw : Region.wanted o (yielded ops a.tmps) = true) (hop : o.op = .move x) (h : ∃ v, a.eval x = v ∧ ∃ a', a.put o.dst v = a' ∧ MixW P ops C E ks rest a' w) : MixW P ops C E (true :: ks) (o :: rest) a w := by
  obtain ⟨v, hv, h⟩ := h
  exact mx_val hw ⟨v, fun w _ => by rw [BigFrame.run_move x hop, hv], h⟩
theorem mx_assign (x : Operand) (hw : Region.wanted o (yielded ops a.tmps) = true) (hop : o.op = .assign x) (h : ∃ v, a.eval x = v ∧ ∃ a', a.put o.dst v = a' ∧ MixW P ops C E ks rest a' w) : MixW P ops C E (true :: ks) (o :: rest) a w := by
  obtain ⟨v, hv, h⟩ := h
  exact mx_val hw ⟨v, fun w _ => by rw [BigFrame.run_assign x hop, hv], h⟩
/-- alone: a value, and a world -/
theorem mx_alone (hc : C w) (hw : Region.wanted o (yielded ops a.tmps) = true) (h : ∃ v w', (execOp a.eval o).run P w = .ok (.value v) w' ∧ ∃ a', a.put o.dst v = a' ∧ MixW P ops C E ks rest a' w') : MixW P ops C E (false :: ks) (o :: rest) a w := by
  obtain ⟨v, w', hv, a', ha, h⟩ := h
  refine ⟨hc, .inl ⟨hw, ?_⟩⟩
  unfold Oper.wp
  rw [hv]
  show wpMix P ops C E ks rest (a.put o.dst v) w'
  rw [ha]
  exact h.go
/-- alone: a call -/
theorem mx_call {f : FuncId} {args : Array Value} {R : Ending → World → Prop} (hc : C w) (hw : Region.wanted o (yielded ops a.tmps) = true) (hv : (execOp a.eval o).run P w = .ok (.enter f args) w) (hcall : Calls P f args w R)
    (h : ∀ e w', R e w' → ∃ v, e = .returned v ∧ ∃ a', a.put o.dst v = a' ∧ MixW P ops C E ks rest a' w') : MixW P ops C E (false :: ks) (o :: rest) a w := by
  refine ⟨hc, .inl ⟨hw, ?_⟩⟩
  unfold Oper.wp
  rw [hv]
  refine hcall.mono fun e w' he => ?_
  obtain ⟨v, rfl, a', ha, h⟩ := h e w' he
  show wpMix P ops C E ks rest (a.put o.dst v) w'
  rw [ha]
  exact h.go
theorem mx_idle (hc : C w) (hw : Region.wanted o (yielded ops a.tmps) = false) (h : ∃ a', a.put o.dst undef = a' ∧ MixW P ops C E ks rest a' w) : MixW P ops C E (false :: ks) (o :: rest) a w := by
  obtain ⟨a', ha, h⟩ := h
  exact ⟨hc, .inr ⟨hw, by rw [ha]; exact h.go⟩⟩
theorem mx_end (hc : C w) (h : E a w) : MixW P ops C E [] [] a w := ⟨hc, h⟩
end
end Go.Proofs.Ytdnljmncdbcgeaa

/- A map stays where only new memory comes. No program. -/
namespace Go.Proofs.Ytdnljmncdbcgeaa
open Go.RowKit Go.Maps

theorem MapAt.below {P : Program} {K : TypeId} {w w' : World} {b : Nat} {L : List (List UInt8 × Value)} (h : MapAt w P K b L) (k : Below w.heap.size w w') : MapAt w' P K b L := h.block (k.block b h.lt)
end Go.Proofs.Ytdnljmncdbcgeaa

/- book.Book: Put. -/
namespace Go.Proofs.Ytdnljmncdbcgeaa
open Go.RowKit Go.Maps

/-- what a call that writes a book leaves -/
structure BookTo (w : World) (bb : Nat) (mo : Option Nat) (T : List (List UInt8 × EP)) (s : Int) (w' : World) : Prop where
  at_ : ∃ mo' L', BookAt w' bb mo' L' s ∧ Hid (plainB L' = T) ∧ ∀ m, mo' = some m → mo = some m ∨ w.heap.size ≤ m
  fr : Fr (fun g => g = bb ∨ mo = some g) w w'
theorem BookTo.of {w w' : World} {bb : Nat} {mo : Option Nat} {L : List (List UInt8 × EV)} {s : Int} (h : BookAt w bb mo L s) (k : Below w.heap.size w w') : BookTo w bb mo (plainB L) s w' :=
  ⟨⟨mo, L, h.below k, rfl, fun _ e => .inl e⟩, Fr.of_below k _⟩
theorem map_eq_nilB (w : World) (m : Option Nat) : (binOp .eql 67 (.map m) (.map none)).run Try.prog w = .ok (.bool m.isNone) w := run_eql_map_nil w _ _ _ m Try.underlying67
/-- bytes do not stand where a book stands -/
theorem By.not_book {w : World} {Z : Nat → Prop} {A : Option Addr} {l : List UInt8} {tb : Nat} {t : TypeId} {s : Int} {mo : Option Nat} (h : By w Z A l) (hb : Blk w tb t #[.int .u64 s, .map mo]) : By w (fun b => b ≠ tb) A l := by
  refine ⟨h.1, fun hn => ?_⟩
  obtain ⟨b, off, e, hz, hlt, hc⟩ := h.2 hn
  refine ⟨b, off, e, fun eb => ?_, hlt, hc⟩
  subst eb
  rcases l with _ | ⟨x, l⟩
  · simp at hn
  · have h1 := hc 0 (bv x) rfl
    rw [hb.cell, Nat.add_zero] at h1
    rcases off with _ | _ | off <;> simp [bv] at h1
/-- bytes do not stand where a map stands -/
theorem By.not_mapAt {w : World} {Z : Nat → Prop} {A : Option Addr} {l : List UInt8} {mb : Nat} {K : List (List UInt8 × Value)} (h : By w Z A l) (hm : MapAt w Try.prog 9 mb K) : By w (fun b => Z b ∧ b ≠ mb) A l := by
  refine ⟨h.1, fun hn => ?_⟩
  obtain ⟨b, off, e, hz, hlt, hc⟩ := h.2 hn
  refine ⟨b, off, e, ⟨hz, fun eb => ?_⟩, hlt, hc⟩
  subst eb
  rcases l with _ | ⟨x, l⟩
  · simp at hn
  · have h1 := hc 0 (bv x) rfl
    obtain ⟨D, ⟨es, clock, h2, _⟩, _⟩ := hm.own
    simp [World.cell?, h2] at h1
/-- the map written -/
theorem BookAt.stored {w w' : World} {bb mb : Nat} {L : List (List UInt8 × EV)} {s : Int} {p : List UInt8} {o : EV} (hb : Blk w bb 69 #[.int .u64 s, .map (some mb)]) (hm : MapAt w' Try.prog 9 mb (putR (mapB L) p o.val)) (hg : w.grownBy w' (some mb)) (hne : mb ≠ bb)
    {K : List (List UInt8 × Value)} (hm0 : MapAt w Try.prog 9 mb K) (hok : ∀ x ∈ L, x.2.inB w x.1) (ho : o.inB w p) (hpl : BookOk (plainB (putR L p o))) : BookAt w' bb (some mb) (putR L p o) s := by
  have f : Fr (fun g => g = mb) w w' := Fr.of_grown hg (fun k _ e => by injection e with e; exact e.symm)
  refine ⟨hb.grown hg (by simpa using hne), .inr ⟨mb, rfl, by rw [mapB_put]; exact hm⟩, fun x hx => ?_, hpl⟩
  unfold putR at hx
  rcases mem_ins.1 hx with rfl | hx
  · exact ⟨own_fr ho.own f (fun g e1 e2 => BookAt.own_map hm0 ho.own (by rw [e1, e2])), ho.p⟩
  · have hx2 := hok x (List.mem_filter.1 hx).1
    exact ⟨own_fr hx2.own f (fun g e1 e2 => BookAt.own_map hm0 hx2.own (by rw [e1, e2])), hx2.p⟩
theorem BookAt.dropped {w w' : World} {bb mb : Nat} {L : List (List UInt8 × EV)} {s : Int} {p : List UInt8} (h : BookAt w bb (some mb) L s) (hm : MapAt w' Try.prog 9 mb (withoutR (mapB L) p)) (hg : w.grownBy w' (some mb)) (hpl : BookOk (plainB (withoutR L p))) : BookAt w' bb (some mb) (withoutR L p) s := by
  have f : Fr (fun g => g = mb) w w' := Fr.of_grown hg (fun k _ e => by injection e with e; exact e.symm)
  refine ⟨h.blk.grown hg (fun e => h.ne e), .inr ⟨mb, rfl, by rw [mapB_without]; exact hm⟩, fun x hx => ?_, hpl⟩
  have hx2 := h.ok x (List.mem_filter.1 hx).1
  exact ⟨own_fr hx2.own f (fun g e1 e2 => h.ownT hx2.own (by decide) g e1 (.inr (by rw [e2]))), hx2.p⟩
theorem BookOk.without {T : List (List UInt8 × EP)} (h : BookOk T) (p : List UInt8) : BookOk (withoutR T p) := ⟨h.sort.without p, fun x hx => h.good x (List.mem_filter.1 hx).1, Nat.le_trans (without_len_le T p) h.len⟩
theorem BookAt.mapSome {w : World} {bb mb : Nat} {L : List (List UInt8 × EV)} {s : Int} (h : BookAt w bb (some mb) L s) : MapAt w Try.prog 9 mb (mapB L) := by
  rcases h.map with ⟨e, _⟩ | ⟨mb', e, hm⟩
  · cases e
  · injection e with e; subst e; exact hm
theorem BookAt.some_of {w : World} {bb : Nat} {mo : Option Nat} {L : List (List UInt8 × EV)} {s : Int} (h : BookAt w bb mo L s) (hL : L ≠ []) : ∃ mb, mo = some mb := by
  rcases h.map with ⟨_, e⟩ | ⟨mb, e, _⟩
  · exact absurd e hL
  · exact ⟨mb, e⟩

set_option maxRecDepth 100000 in
set_option maxHeartbeats 2000000 in
theorem bookPut_any (bb : Nat) (mo : Option Nat) (L : List (List UInt8 × EV)) (s : Int) (p : List UInt8) (v k : Int) (A : Option Addr) (c : Nat) (l : List UInt8) (Z : Nat → Prop) (w : World) (h : BookAt w bb mo L s) (hy : By w Z A l) (hp : p.length ≤ 1048576) (hv : 0 ≤ v ∧ v < 18446744073709551616) (hn : l.length ≤ 140737488355328) :
    Calls Try.prog 15 #[.pointer (some ⟨bb, 0, none⟩), .agg #[.string ⟨⟨p⟩⟩, .int .u64 v, .int .i64 k, .slice A l.length c]] w fun e w' => e = .returned (.int .i64 (putP (plainB L) p (v, k, l)).2) ∧ BookTo w bb mo (putP (plainB L) p (v, k, l)).1 s w' := by
  have HPL := Lib.hid (h.plain.put p (v, k, l))
  obtain ⟨R, hR⟩ : ∃ R, R = putP (plainB L) p (v, k, l) := ⟨_, rfl⟩
  rw [← hR]
  rw [← hR] at HPL
  obtain ⟨T, M⟩ := R
  dsimp only at HPL ⊢
  have HR := Lib.hid hR
  have HB := Lib.hid h
  have HY := Lib.hid hy
  have hb0 : Below w.heap.size w (w.alloc (.cells #[.string ⟨⟨p⟩⟩, .int .u64 v, .int .i64 k, .slice A l.length c] 28)) := (by repeat (first | exact Below.refl _ _ | refine Below.alloc ?_ (by simp) _ | refine Below.setCell ?_ (by simp) _ | refine Below.drew ?_))
  have x0 := Blk.new w 28 #[.string ⟨⟨p⟩⟩, .int .u64 v, .int .i64 k, .slice A l.length c]
  obtain ⟨C, hC⟩ : ∃ C, C = checkP p (v, k, l) := ⟨_, rfl⟩
  have HCK := Lib.hid (entryCheck_any ⟨⟨p⟩⟩ v k A l.length c (w.alloc (.cells #[.string ⟨⟨p⟩⟩, .int .u64 v, .int .i64 k, .slice A l.length c] 28)) (by show p.length ≤ _; omega) hv hn)
  rw [show checkE (tl ⟨⟨p⟩⟩) v k l.length = C from hC.symm] at HCK
  have HC := Lib.hid hC
  clear h hy hR hC
  go_enter Try.func15, Try.ntmps15
  go_wp2_with fail
  refine HCK.out.mono ?_
  rintro e w1 ⟨rfl, hb1⟩
  have hw1 := hb0.trans (hb1.mono hb0.size)
  have x1 := x0.below hb1
  clear x0 hb0 hb1 HCK
  by_cases hC0 : C = 0
  · have hCb : (C != 0) = false := by simp [hC0]
    have HC0 := Lib.hid hC0
    clear hC0
    have HR1 : Hid ((T, M) = if v ≤ ((getR (plainB L) p).map (·.1)).getD 0 then (plainB L, (31 : Int)) else if (getR (plainB L) p).isNone = true ∧ 256 ≤ (plainB L).length then ((spareB (plainB L)).elim (plainB L, (24 : Int)) fun y => (putR (withoutR (plainB L) y.1) p (v, k, l), (0 : Int))) else (putR (plainB L) p (v, k, l), 0)) := Lib.hid (by
      rw [HR.out]
      unfold putP putB
      rw [if_neg (by rw [← HC.out, HC0.out]; simp)])
    have hgood := checkP_good (p := p) (x := (v, k, l)) (by rw [← HC.out, HC0.out])
    have hvp := isV_pos hgood.2.1
    dsimp only at hvp
    rw [get_plainB, plainB_len] at HR1
    have q0 : w1.cell? ⟨w.heap.size, 0, none⟩ = some (.string ⟨⟨p⟩⟩) := x1.cell 0
    have HG := Lib.hid (bookget_any bb mo L s p w1 (HB.out.below hw1) (by simp only [maxLen]; omega))
    have HLL := Lib.hid HB.out.len
    clear HR HC HC0 hgood
    go_wp2_with fail
    refine HG.out.mono ?_
    rintro e w2 ⟨⟨o, rfl, ho⟩, hb2⟩
    have hw2 := hw1.trans (hb2.mono hw1.size)
    have x2 := x1.below hb2
    have hba : Below w2.heap.size w2 (w2.alloc (.cells #[.string o.p, .int .u64 o.v, .int .i64 o.k, .slice o.x.A o.x.l.length o.x.c] 28)) := (Below.refl _ _).alloc (Nat.le_refl _) _
    have y3 := Blk.new w2 28 #[.string o.p, .int .u64 o.v, .int .i64 o.k, .slice o.x.A o.x.l.length o.x.c]
    have x3 := x2.below hba
    have hw3 := hw2.trans (hba.mono hw2.size)
    clear q0 x1 hb2 HG
    go_upto_region 7 with (fail)
    generalize w2.alloc (.cells #[.string o.p, .int .u64 o.v, .int .i64 o.k, .slice o.x.A o.x.l.length o.x.c] 28) = w3 at *
    clear hba x2
    have r0 := y3.cell 0
    have r1 := y3.cell 1
    have r2 := y3.cell 2
    have r3 := y3.cell 3
    have q0 := x3.cell 0
    have q1 := x3.cell 1
    have q2 := x3.cell 2
    have q3 := x3.cell 3
    simp only [List.getElem?_toArray, List.getElem?_cons_zero, List.getElem?_cons_succ] at r0 r1 r2 r3 q0 q1 q2 q3
    have hmn := fun W m => map_eq_nilB W m
    rcases hg : getR L p with _ | o'
    · rw [hg] at HR1
      have HR2 : Hid ((T, M) = if 256 ≤ L.length then ((spareB (plainB L)).elim (plainB L, (24 : Int)) fun y => (putR (withoutR (plainB L) y.1) p (v, k, l), (0 : Int))) else (putR (plainB L) p (v, k, l), 0)) := Lib.hid (by
        rw [HR1.out]
        rw [if_neg (by show ¬ v ≤ 0; omega)]
        simp)
      clear HR1 ho r0 r1 r2 r3 y3 hg
      by_cases hlen : 256 ≤ L.length
      · obtain ⟨mb, rfl⟩ := HB.out.some_of (by rintro rfl; simp at hlen)
        have hB3 := HB.out.below hw3
        have hcnt := fun ty => hB3.mapSome.count (w := w3) Try.underlying9 (t := 67) (e := 28) Try.underlying67 ty
        rw [mapB_len] at hcnt
        obtain ⟨_, c1⟩ := hB3.cells
        have hl2 : decide ((256 : Int) ≤ (L.length : Int)) = true := decide_eq_true (by omega)
        have HSP := Lib.hid (bookspare_any bb mb L s w3 hB3)
        have HR3 := Lib.hid HR2.out
        rw [if_pos hlen] at HR3
        clear HR2
        go_wp2_with fail
        refine HSP.out.mono ?_
        rintro e w4 ⟨⟨oy, rfl, hoy, hoL⟩, hb4⟩
        have hw4 := hw3.trans (hb4.mono hw3.size)
        have x4 := x3.below hb4
        have hB4 := HB.out.below hw4
        obtain ⟨_, c14⟩ := hB4.cells
        rw [hoy.out] at HR3
        clear c1 hcnt HSP q0 q1 q2 q3 hB3
        rcases oy with _ | y
        · obtain ⟨rfl, rfl⟩ : T = plainB L ∧ M = 24 := by simpa using HR3.out
          clear hmn
          go_wp2_with fail
          go_ret
          exact ⟨rfl, BookTo.of HB.out hw4⟩
        · have hym := hoL.out y rfl
          obtain ⟨hT, rfl⟩ : T = putR (withoutR (plainB L) y.1) p (v, k, l) ∧ M = 0 := by simpa using HR3.out
          have HT3 : Hid (T = putR (plainB (withoutR L y.1)) p (v, k, l)) := Lib.hid (by rw [plainB_without]; exact hT)
          have hyk := HB.out.keys hym
          obtain ⟨w5, hrun5, hm5, hg5, _⟩ := hB4.mapSome.drop Try.underlying9 (t := 67) (e := 28) Try.underlying67 (txtO (some y)) (by show y.1.length ≤ _; simp only [maxLen]; omega) 0
          have hB5 := hB4.dropped (p := y.1) hm5 hg5 (by rw [plainB_without]; exact hB4.plain.without _)
          have f5 : Fr (fun g => g = mb) w4 w5 := Fr.of_grown hg5 (fun k _ e => by injection e with e; exact e.symm)
          have hmlt := HB.out.lt mb rfl
          have x5 := x4.fr f5 (by intro e; omega)
          obtain ⟨_, c15⟩ := hB5.cells
          have HY5 := Lib.hid (show By w5 (fun _ => True) A l from (((HY.out.below hw4).not_mapAt hB4.mapSome).fr f5 (fun b _ hz e => hz.2 e)).mono (fun _ _ _ => trivial))
          have hfr3 : Fr (fun g => g = bb ∨ (some mb : Option Nat) = some g) w w5 := (Fr.of_below hw4 _).trans f5 (fun x _ e => .inr (by rw [e]))
          have hLLl : (withoutR L y.1).length ≤ 256 := Nat.le_trans (without_len_le L y.1) HLL.out
          have b3 := hB5.blk
          have hm3 := hB5.mapSome
          have hok3 := hB5.ok
          have hne3 : mb ≠ bb := fun e => hB5.ne (by rw [e])
          have hx3 := x5
          have HY3 := HY5
          clear HR3 hB4 hB5 hm5 x3 x4 hT hyk hym f5
          go_wp2_with fail
          clear c14 c15 hrun5 x5 HY5 hmn
          refine wp_region_m [true, true, true, true, true, true, true, false] (fun W => Below w5.heap.size w5 W) (by kernel_rfl) (by kernel_rfl) ?_
          simp only [List.length_cons, List.length_nil, Nat.zero_add, Nat.reduceAdd, List.take_succ_cons, List.take_zero, List.drop_succ_cons, List.drop_zero]
          refine mx_move _ (by kernel_rfl) rfl ⟨_, (by ((try simp [go_sem]); (try rfl); done)), _, (by (simp only [Act.put, List.setIfInBounds_toArray, List.set_cons_zero, List.set_cons_succ]; rfl)), ?_⟩
          refine mx_val (by kernel_rfl) ⟨_, (by (intro w' hC; clear hC; (try go_simp); (try with_reducible rfl); done)), _, (by (simp only [Act.put, List.setIfInBounds_toArray, List.set_cons_zero, List.set_cons_succ]; rfl)), ?_⟩
          refine mx_val (by kernel_rfl) ⟨_, (by (intro w' hC; clear hC; (try go_simp); (try with_reducible rfl); done)), _, (by (simp only [Act.put, List.setIfInBounds_toArray, List.set_cons_zero, List.set_cons_succ]; rfl)), ?_⟩
          refine mx_val (by kernel_rfl) ⟨_, (by (intro w' hC; (have q := (b3.below hC).cell 1; simp only [List.getElem?_toArray, List.getElem?_cons_zero, List.getElem?_cons_succ] at q); clear hC; (try go_simp); (try with_reducible rfl); done)), _, (by (simp only [Act.put, List.setIfInBounds_toArray, List.set_cons_zero, List.set_cons_succ]; rfl)), ?_⟩
          refine mx_val (by kernel_rfl) ⟨_, (by (intro w' hC; clear hC; (try go_simp); (try with_reducible rfl); done)), _, (by (simp only [Act.put, List.setIfInBounds_toArray, List.set_cons_zero, List.set_cons_succ]; rfl)), ?_⟩
          refine mx_val (by kernel_rfl) ⟨_, (by (intro w' hC; (have q0 := (hx3.below hC).cell 0; have q1 := (hx3.below hC).cell 1; have q2 := (hx3.below hC).cell 2; have q3 := (hx3.below hC).cell 3; simp only [List.getElem?_toArray, List.getElem?_cons_zero, List.getElem?_cons_succ] at q0 q1 q2 q3); clear hC; (try go_simp); (try with_reducible rfl); done)), _, (by (simp only [Act.put, List.setIfInBounds_toArray, List.set_cons_zero, List.set_cons_succ]; rfl)), ?_⟩
          refine mx_val (by kernel_rfl) ⟨_, (by (intro w' hC; (have q0 := (hx3.below hC).cell 0; have q1 := (hx3.below hC).cell 1; have q2 := (hx3.below hC).cell 2; have q3 := (hx3.below hC).cell 3; simp only [List.getElem?_toArray, List.getElem?_cons_zero, List.getElem?_cons_succ] at q0 q1 q2 q3); clear hC; (try go_simp); (try with_reducible rfl); done)), _, (by (simp only [Act.put, List.setIfInBounds_toArray, List.set_cons_zero, List.set_cons_succ]; rfl)), ?_⟩
          refine mx_call ((Below.refl _ _).drew) (by kernel_rfl) ?_ (entryClone_any ⟨⟨p⟩⟩ v k A c l _ w5.drew (HY3.out.drew) hn) ?_
          · (go_simp; done)
          rintro e wa ⟨A4, c4, l4, rfl, hl4, ho4, hb4⟩
          have hlow4 : Below w5.heap.size w5 wa := (Below.refl _ _).drew.trans (hb4.mono (Nat.le_refl _))
          refine ⟨_, rfl, _, (by (simp only [Act.put, List.setIfInBounds_toArray, List.set_cons_zero, List.set_cons_succ]; rfl)), ?_⟩
          refine mx_end hlow4 ?_
          have b4 := b3.below hlow4
          have HPL4 : Hid (BookOk (plainB (putR (withoutR L y.1) p ⟨⟨⟨p⟩⟩, v, k, ⟨A4, c4, l4⟩⟩))) := Lib.hid (by
            rw [plainB_put, show EV.ep ⟨⟨⟨p⟩⟩, v, k, ⟨A4, c4, l4⟩⟩ = (v, k, l) by show (v, k, l4) = _; rw [hl4.out], ← HT3.out]
            exact HPL.out)
          have hlen3 : (mapB (withoutR L y.1)).length < maxLen := by rw [mapB_len]; simp only [maxLen]; omega
          obtain ⟨wb, hrun5, hm5, hg5, _⟩ := (hm3.below hlow4).store Try.underlying9 Try.underlying67 p (by simp only [maxLen]; omega) (.agg #[.string ⟨⟨p⟩⟩, .int .u64 v, .int .i64 k, .slice A4 l4.length c4]) hlen3
          have hlt3 := hm3.lt
          have htb3 := b3.lt
          have hoo : EV.inB wa p ⟨⟨⟨p⟩⟩, v, k, ⟨A4, c4, l4⟩⟩ := ⟨own_base ho4 (fun _ _ => Nat.zero_le _), rfl⟩
          have HD := Lib.hid (BookAt.stored (o := ⟨⟨⟨p⟩⟩, v, k, ⟨A4, c4, l4⟩⟩) b4 hm5 hg5 hne3 (hm3.below hlow4) (fun x hx => (hok3 x hx).below hlow4) hoo HPL4.out)
          have HPP : Hid (plainB (putR (withoutR L y.1) p ⟨⟨⟨p⟩⟩, v, k, ⟨A4, c4, l4⟩⟩) = T) := by show _ = _; rw [plainB_put, HT3.out]; show putR (plainB (withoutR L y.1)) p (v, k, l4) = _; rw [hl4.out]
          have hfr5 := hfr3.then_below hlow4
          clear b4 hm5 hm3 hok3 hoo ho4 b3 hx3 HY3 hl4 HPL4
          go_wp2_with fail
          go_ret
          refine ⟨rfl, ⟨some mb, _, HD.out, HPP, fun m e => by injection e with e; subst e; exact .inl rfl⟩, ?_⟩
          exact hfr5.trans (Fr.of_grown hg5 (S := fun g => some mb = some g) (fun k _ e => e)) (fun x hx e => by exact .inr e)
      · have hl2 : decide ((256 : Int) ≤ (L.length : Int)) = false := decide_eq_false (by omega)
        have HR3 := Lib.hid HR2.out
        rw [if_neg hlen] at HR3
        obtain ⟨hT, rfl⟩ : T = putR (plainB L) p (v, k, l) ∧ M = 0 := by simpa using HR3.out
        have hB3 := HB.out.below hw3
        have HT3 : Hid (T = putR (plainB L) p (v, k, l)) := Lib.hid hT
        clear HR2 HR3 hT
        rcases hB3.map with ⟨rfl, rfl⟩ | ⟨mb, rfl, hm⟩
        · have hmm := @run_makeMap Try.prog
          obtain ⟨_, c1⟩ := hB3.cells
          have hcnt := fun ty => (show (Builtin.len_ #[67] ty #[.map none]).run Try.prog w3 = .ok (.int .i64 0) w3 by kernel_rfl)
          have f1 := hB3.blk.frozen 1
          have hsz := hw3.size
          have htl := hB3.blk.lt
          have htw := HB.out.blk.lt
          have b3 : Blk ((w3.setCell ⟨bb, 1, none⟩ (.map (some w3.heap.size))).alloc (.map #[] 0)) bb 69 #[.int .u64 s, .map (some w3.heap.size)] := by simpa using (hB3.blk.set_ 1 (.map (some w3.heap.size))).alloc (.map #[] 0)
          have fS : Fr (fun g => g = bb) w3 ((w3.setCell ⟨bb, 1, none⟩ (.map (some w3.heap.size))).alloc (.map #[] 0)) := ((Fr.refl (fun g => g = bb) w3).setAt bb 1 rfl _).alloc _
          have hm3 : MapAt ((w3.setCell ⟨bb, 1, none⟩ (.map (some w3.heap.size))).alloc (.map #[] 0)) Try.prog 9 w3.heap.size (mapB []) := by have := MapAt.made (w3.setCell ⟨bb, 1, none⟩ (.map (some w3.heap.size))) Try.prog 9; rwa [show (w3.setCell ⟨bb, 1, none⟩ (.map (some w3.heap.size))).heap.size = w3.heap.size by simp [World.setCell]] at this
          have hx3 := x3.fr fS (by omega)
          have HY3 := Lib.hid (show By ((w3.setCell ⟨bb, 1, none⟩ (.map (some w3.heap.size))).alloc (.map #[] 0)) (fun _ => True) A l from (((HY.out.below hw3).not_book hB3.blk).fr fS (fun b _ hz e => hz e)).mono (fun _ _ _ => trivial))
          have hfr3 := (Fr.of_below hw3 (fun g => g = bb ∨ (none : Option Nat) = some g)).trans fS (fun x _ e => .inl e)
          have hne3 : w3.heap.size ≠ bb := by omega
          have hbig : w.heap.size ≤ w3.heap.size := hsz
          have hok3 : ∀ x ∈ ([] : List (List UInt8 × EV)), x.2.inB ((w3.setCell ⟨bb, 1, none⟩ (.map (some w3.heap.size))).alloc (.map #[] 0)) x.1 := by simp
          have hLLl : ([] : List (List UInt8 × EV)).length ≤ 256 := by simp
          go_wp2_with fail
          clear q0 q1 q2 q3 x3 f1 fS hmm c1 hmn hcnt hB3
          generalize (w3.setCell ⟨bb, 1, none⟩ (.map (some w3.heap.size))).alloc (.map #[] 0) = w6 at *
          generalize hmbe : w3.heap.size = mb at *
          clear hmbe
          refine wp_region_m [true, true, true, true, true, true, true, false] (fun W => Below w6.heap.size w6 W) (by kernel_rfl) (by kernel_rfl) ?_
          simp only [List.length_cons, List.length_nil, Nat.zero_add, Nat.reduceAdd, List.take_succ_cons, List.take_zero, List.drop_succ_cons, List.drop_zero]
          refine mx_move _ (by kernel_rfl) rfl ⟨_, (by ((try simp [go_sem]); (try rfl); done)), _, (by (simp only [Act.put, List.setIfInBounds_toArray, List.set_cons_zero, List.set_cons_succ]; rfl)), ?_⟩
          refine mx_val (by kernel_rfl) ⟨_, (by (intro w' hC; clear hC; (try go_simp); (try with_reducible rfl); done)), _, (by (simp only [Act.put, List.setIfInBounds_toArray, List.set_cons_zero, List.set_cons_succ]; rfl)), ?_⟩
          refine mx_val (by kernel_rfl) ⟨_, (by (intro w' hC; clear hC; (try go_simp); (try with_reducible rfl); done)), _, (by (simp only [Act.put, List.setIfInBounds_toArray, List.set_cons_zero, List.set_cons_succ]; rfl)), ?_⟩
          refine mx_val (by kernel_rfl) ⟨_, (by (intro w' hC; (have q := (b3.below hC).cell 1; simp only [List.getElem?_toArray, List.getElem?_cons_zero, List.getElem?_cons_succ] at q); clear hC; (try go_simp); (try with_reducible rfl); done)), _, (by (simp only [Act.put, List.setIfInBounds_toArray, List.set_cons_zero, List.set_cons_succ]; rfl)), ?_⟩
          refine mx_val (by kernel_rfl) ⟨_, (by (intro w' hC; clear hC; (try go_simp); (try with_reducible rfl); done)), _, (by (simp only [Act.put, List.setIfInBounds_toArray, List.set_cons_zero, List.set_cons_succ]; rfl)), ?_⟩
          refine mx_val (by kernel_rfl) ⟨_, (by (intro w' hC; (have q0 := (hx3.below hC).cell 0; have q1 := (hx3.below hC).cell 1; have q2 := (hx3.below hC).cell 2; have q3 := (hx3.below hC).cell 3; simp only [List.getElem?_toArray, List.getElem?_cons_zero, List.getElem?_cons_succ] at q0 q1 q2 q3); clear hC; (try go_simp); (try with_reducible rfl); done)), _, (by (simp only [Act.put, List.setIfInBounds_toArray, List.set_cons_zero, List.set_cons_succ]; rfl)), ?_⟩
          refine mx_val (by kernel_rfl) ⟨_, (by (intro w' hC; (have q0 := (hx3.below hC).cell 0; have q1 := (hx3.below hC).cell 1; have q2 := (hx3.below hC).cell 2; have q3 := (hx3.below hC).cell 3; simp only [List.getElem?_toArray, List.getElem?_cons_zero, List.getElem?_cons_succ] at q0 q1 q2 q3); clear hC; (try go_simp); (try with_reducible rfl); done)), _, (by (simp only [Act.put, List.setIfInBounds_toArray, List.set_cons_zero, List.set_cons_succ]; rfl)), ?_⟩
          refine mx_call ((Below.refl _ _).drew) (by kernel_rfl) ?_ (entryClone_any ⟨⟨p⟩⟩ v k A c l _ w6.drew (HY3.out.drew) hn) ?_
          · (go_simp; done)
          rintro e wa ⟨A4, c4, l4, rfl, hl4, ho4, hb4⟩
          have hlow4 : Below w6.heap.size w6 wa := (Below.refl _ _).drew.trans (hb4.mono (Nat.le_refl _))
          refine ⟨_, rfl, _, (by (simp only [Act.put, List.setIfInBounds_toArray, List.set_cons_zero, List.set_cons_succ]; rfl)), ?_⟩
          refine mx_end hlow4 ?_
          have b4 := b3.below hlow4
          have HPL4 : Hid (BookOk (plainB (putR ([] : List (List UInt8 × EV)) p ⟨⟨⟨p⟩⟩, v, k, ⟨A4, c4, l4⟩⟩))) := Lib.hid (by
            rw [plainB_put, show EV.ep ⟨⟨⟨p⟩⟩, v, k, ⟨A4, c4, l4⟩⟩ = (v, k, l) by show (v, k, l4) = _; rw [hl4.out], ← HT3.out]
            exact HPL.out)
          have hlen3 : (mapB ([] : List (List UInt8 × EV))).length < maxLen := by rw [mapB_len]; simp only [maxLen]; omega
          obtain ⟨wb, hrun5, hm5, hg5, _⟩ := (hm3.below hlow4).store Try.underlying9 Try.underlying67 p (by simp only [maxLen]; omega) (.agg #[.string ⟨⟨p⟩⟩, .int .u64 v, .int .i64 k, .slice A4 l4.length c4]) hlen3
          have hlt3 := hm3.lt
          have htb3 := b3.lt
          have hoo : EV.inB wa p ⟨⟨⟨p⟩⟩, v, k, ⟨A4, c4, l4⟩⟩ := ⟨own_base ho4 (fun _ _ => Nat.zero_le _), rfl⟩
          have HD := Lib.hid (BookAt.stored (o := ⟨⟨⟨p⟩⟩, v, k, ⟨A4, c4, l4⟩⟩) b4 hm5 hg5 hne3 (hm3.below hlow4) (fun x hx => (hok3 x hx).below hlow4) hoo HPL4.out)
          have HPP : Hid (plainB (putR ([] : List (List UInt8 × EV)) p ⟨⟨⟨p⟩⟩, v, k, ⟨A4, c4, l4⟩⟩) = T) := by show _ = _; rw [plainB_put, HT3.out]; show putR (plainB ([] : List (List UInt8 × EV))) p (v, k, l4) = _; rw [hl4.out]
          have hfr5 := hfr3.then_below hlow4
          clear b4 hm5 hm3 hok3 hoo ho4 b3 hx3 HY3 hl4 HPL4
          go_wp2_with fail
          go_ret
          refine ⟨rfl, ⟨some mb, _, HD.out, HPP, fun m e => by injection e with e; subst e; exact .inr hbig⟩, ?_⟩
          exact hfr5.trans (Fr.of_grown hg5 (S := fun g => some mb = some g) (fun k _ e => e)) (fun x hx e => by injection e with e; omega)
        · have hcnt := fun ty => hB3.mapSome.count (w := w3) Try.underlying9 (t := 67) (e := 28) Try.underlying67 ty
          rw [mapB_len] at hcnt
          have b3 := hB3.blk
          have hm3 := hB3.mapSome
          have hok3 := hB3.ok
          have hne3 : mb ≠ bb := fun e => hB3.ne (by rw [e])
          have hLLl := HLL.out
          have hx3 := x3
          have HY3 := Lib.hid (show By w3 (fun _ => True) A l from (HY.out.below hw3).mono (fun _ _ _ => trivial))
          have hfr3 : Fr (fun g => g = bb ∨ (some mb : Option Nat) = some g) w w3 := Fr.of_below hw3 _
          obtain ⟨_, c1⟩ := hB3.cells
          clear hB3 hm
          go_wp2_with fail
          clear q0 q1 q2 q3 x3 c1 hcnt hmn
          refine wp_region_m [true, true, true, true, true, true, true, false] (fun W => Below w3.heap.size w3 W) (by kernel_rfl) (by kernel_rfl) ?_
          simp only [List.length_cons, List.length_nil, Nat.zero_add, Nat.reduceAdd, List.take_succ_cons, List.take_zero, List.drop_succ_cons, List.drop_zero]
          refine mx_move _ (by kernel_rfl) rfl ⟨_, (by ((try simp [go_sem]); (try rfl); done)), _, (by (simp only [Act.put, List.setIfInBounds_toArray, List.set_cons_zero, List.set_cons_succ]; rfl)), ?_⟩
          refine mx_val (by kernel_rfl) ⟨_, (by (intro w' hC; clear hC; (try go_simp); (try with_reducible rfl); done)), _, (by (simp only [Act.put, List.setIfInBounds_toArray, List.set_cons_zero, List.set_cons_succ]; rfl)), ?_⟩
          refine mx_val (by kernel_rfl) ⟨_, (by (intro w' hC; clear hC; (try go_simp); (try with_reducible rfl); done)), _, (by (simp only [Act.put, List.setIfInBounds_toArray, List.set_cons_zero, List.set_cons_succ]; rfl)), ?_⟩
          refine mx_val (by kernel_rfl) ⟨_, (by (intro w' hC; (have q := (b3.below hC).cell 1; simp only [List.getElem?_toArray, List.getElem?_cons_zero, List.getElem?_cons_succ] at q); clear hC; (try go_simp); (try with_reducible rfl); done)), _, (by (simp only [Act.put, List.setIfInBounds_toArray, List.set_cons_zero, List.set_cons_succ]; rfl)), ?_⟩
          refine mx_val (by kernel_rfl) ⟨_, (by (intro w' hC; clear hC; (try go_simp); (try with_reducible rfl); done)), _, (by (simp only [Act.put, List.setIfInBounds_toArray, List.set_cons_zero, List.set_cons_succ]; rfl)), ?_⟩
          refine mx_val (by kernel_rfl) ⟨_, (by (intro w' hC; (have q0 := (hx3.below hC).cell 0; have q1 := (hx3.below hC).cell 1; have q2 := (hx3.below hC).cell 2; have q3 := (hx3.below hC).cell 3; simp only [List.getElem?_toArray, List.getElem?_cons_zero, List.getElem?_cons_succ] at q0 q1 q2 q3); clear hC; (try go_simp); (try with_reducible rfl); done)), _, (by (simp only [Act.put, List.setIfInBounds_toArray, List.set_cons_zero, List.set_cons_succ]; rfl)), ?_⟩
          refine mx_val (by kernel_rfl) ⟨_, (by (intro w' hC; (have q0 := (hx3.below hC).cell 0; have q1 := (hx3.below hC).cell 1; have q2 := (hx3.below hC).cell 2; have q3 := (hx3.below hC).cell 3; simp only [List.getElem?_toArray, List.getElem?_cons_zero, List.getElem?_cons_succ] at q0 q1 q2 q3); clear hC; (try go_simp); (try with_reducible rfl); done)), _, (by (simp only [Act.put, List.setIfInBounds_toArray, List.set_cons_zero, List.set_cons_succ]; rfl)), ?_⟩
          refine mx_call ((Below.refl _ _).drew) (by kernel_rfl) ?_ (entryClone_any ⟨⟨p⟩⟩ v k A c l _ w3.drew (HY3.out.drew) hn) ?_
          · (go_simp; done)
          rintro e wa ⟨A4, c4, l4, rfl, hl4, ho4, hb4⟩
          have hlow4 : Below w3.heap.size w3 wa := (Below.refl _ _).drew.trans (hb4.mono (Nat.le_refl _))
          refine ⟨_, rfl, _, (by (simp only [Act.put, List.setIfInBounds_toArray, List.set_cons_zero, List.set_cons_succ]; rfl)), ?_⟩
          refine mx_end hlow4 ?_
          have b4 := b3.below hlow4
          have HPL4 : Hid (BookOk (plainB (putR L p ⟨⟨⟨p⟩⟩, v, k, ⟨A4, c4, l4⟩⟩))) := Lib.hid (by
            rw [plainB_put, show EV.ep ⟨⟨⟨p⟩⟩, v, k, ⟨A4, c4, l4⟩⟩ = (v, k, l) by show (v, k, l4) = _; rw [hl4.out], ← HT3.out]
            exact HPL.out)
          have hlen3 : (mapB L).length < maxLen := by rw [mapB_len]; simp only [maxLen]; omega
          obtain ⟨wb, hrun5, hm5, hg5, _⟩ := (hm3.below hlow4).store Try.underlying9 Try.underlying67 p (by simp only [maxLen]; omega) (.agg #[.string ⟨⟨p⟩⟩, .int .u64 v, .int .i64 k, .slice A4 l4.length c4]) hlen3
          have hlt3 := hm3.lt
          have htb3 := b3.lt
          have hoo : EV.inB wa p ⟨⟨⟨p⟩⟩, v, k, ⟨A4, c4, l4⟩⟩ := ⟨own_base ho4 (fun _ _ => Nat.zero_le _), rfl⟩
          have HD := Lib.hid (BookAt.stored (o := ⟨⟨⟨p⟩⟩, v, k, ⟨A4, c4, l4⟩⟩) b4 hm5 hg5 hne3 (hm3.below hlow4) (fun x hx => (hok3 x hx).below hlow4) hoo HPL4.out)
          have HPP : Hid (plainB (putR L p ⟨⟨⟨p⟩⟩, v, k, ⟨A4, c4, l4⟩⟩) = T) := by show _ = _; rw [plainB_put, HT3.out]; show putR (plainB L) p (v, k, l4) = _; rw [hl4.out]
          have hfr5 := hfr3.then_below hlow4
          clear b4 hm5 hm3 hok3 hoo ho4 b3 hx3 HY3 hl4 HPL4
          go_wp2_with fail
          go_ret
          refine ⟨rfl, ⟨some mb, _, HD.out, HPP, fun m e => by injection e with e; subst e; exact .inl rfl⟩, ?_⟩
          exact hfr5.trans (Fr.of_grown hg5 (S := fun g => some mb = some g) (fun k _ e => e)) (fun x hx e => by exact .inr e)
    · obtain ⟨mb, rfl⟩ := HB.out.some_of (by rintro rfl; simp [getR_nil] at hg)
      rw [hg] at HR1 ho
      have ho2 : o = o' := ho.out
      have HN := Lib.hid (entryNewer_any ⟨⟨p⟩⟩ o.p v o.v k o.k (.slice A l.length c) (.slice o.x.A o.x.l.length o.x.c) w3)
      subst ho2
      by_cases hvo : o.v < v
      · have hvd : decide (o.v < v) = true := decide_eq_true hvo
        have HR3 := Lib.hid HR1.out
        rw [if_neg (by show ¬ v ≤ o.v; omega), if_neg (by simp)] at HR3
        obtain ⟨hT, rfl⟩ : T = putR (plainB L) p (v, k, l) ∧ M = 0 := by simpa using HR3.out
        have HT3 : Hid (T = putR (plainB L) p (v, k, l)) := Lib.hid hT
        rw [hvd] at HN
        clear HR1 HR3 hT ho hg hvo hvd
        go_wp2_with fail
        refine HN.out.mono ?_
        rintro e w4 ⟨rfl, hb4⟩
        have hw4 := hw3.trans (hb4.mono hw3.size)
        have x4 := x3.below hb4
        have hB4 := HB.out.below hw4
        have b3 := hB4.blk
        have hm3 := hB4.mapSome
        have hok3 := hB4.ok
        have hne3 : mb ≠ bb := fun e => hB4.ne (by rw [e])
        have hLLl := HLL.out
        have hx3 := x4
        have HY3 := Lib.hid (show By w4 (fun _ => True) A l from (HY.out.below hw4).mono (fun _ _ _ => trivial))
        have hfr3 : Fr (fun g => g = bb ∨ (some mb : Option Nat) = some g) w w4 := Fr.of_below hw4 _
        obtain ⟨_, c1⟩ := hB4.cells
        clear hB4 HN
        go_wp2_with fail
        clear q0 q1 q2 q3 r0 r1 r2 r3 y3 x3 x4 c1 hmn
        refine wp_region_m [true, true, true, true, true, true, true, false] (fun W => Below w4.heap.size w4 W) (by kernel_rfl) (by kernel_rfl) ?_
        simp only [List.length_cons, List.length_nil, Nat.zero_add, Nat.reduceAdd, List.take_succ_cons, List.take_zero, List.drop_succ_cons, List.drop_zero]
        refine mx_move _ (by kernel_rfl) rfl ⟨_, (by ((try simp [go_sem]); (try rfl); done)), _, (by (simp only [Act.put, List.setIfInBounds_toArray, List.set_cons_zero, List.set_cons_succ]; rfl)), ?_⟩
        refine mx_val (by kernel_rfl) ⟨_, (by (intro w' hC; clear hC; (try go_simp); (try with_reducible rfl); done)), _, (by (simp only [Act.put, List.setIfInBounds_toArray, List.set_cons_zero, List.set_cons_succ]; rfl)), ?_⟩
        refine mx_val (by kernel_rfl) ⟨_, (by (intro w' hC; clear hC; (try go_simp); (try with_reducible rfl); done)), _, (by (simp only [Act.put, List.setIfInBounds_toArray, List.set_cons_zero, List.set_cons_succ]; rfl)), ?_⟩
        refine mx_val (by kernel_rfl) ⟨_, (by (intro w' hC; (have q := (b3.below hC).cell 1; simp only [List.getElem?_toArray, List.getElem?_cons_zero, List.getElem?_cons_succ] at q); clear hC; (try go_simp); (try with_reducible rfl); done)), _, (by (simp only [Act.put, List.setIfInBounds_toArray, List.set_cons_zero, List.set_cons_succ]; rfl)), ?_⟩
        refine mx_val (by kernel_rfl) ⟨_, (by (intro w' hC; clear hC; (try go_simp); (try with_reducible rfl); done)), _, (by (simp only [Act.put, List.setIfInBounds_toArray, List.set_cons_zero, List.set_cons_succ]; rfl)), ?_⟩
        refine mx_val (by kernel_rfl) ⟨_, (by (intro w' hC; (have q0 := (hx3.below hC).cell 0; have q1 := (hx3.below hC).cell 1; have q2 := (hx3.below hC).cell 2; have q3 := (hx3.below hC).cell 3; simp only [List.getElem?_toArray, List.getElem?_cons_zero, List.getElem?_cons_succ] at q0 q1 q2 q3); clear hC; (try go_simp); (try with_reducible rfl); done)), _, (by (simp only [Act.put, List.setIfInBounds_toArray, List.set_cons_zero, List.set_cons_succ]; rfl)), ?_⟩
        refine mx_val (by kernel_rfl) ⟨_, (by (intro w' hC; (have q0 := (hx3.below hC).cell 0; have q1 := (hx3.below hC).cell 1; have q2 := (hx3.below hC).cell 2; have q3 := (hx3.below hC).cell 3; simp only [List.getElem?_toArray, List.getElem?_cons_zero, List.getElem?_cons_succ] at q0 q1 q2 q3); clear hC; (try go_simp); (try with_reducible rfl); done)), _, (by (simp only [Act.put, List.setIfInBounds_toArray, List.set_cons_zero, List.set_cons_succ]; rfl)), ?_⟩
        refine mx_call ((Below.refl _ _).drew) (by kernel_rfl) ?_ (entryClone_any ⟨⟨p⟩⟩ v k A c l _ w4.drew (HY3.out.drew) hn) ?_
        · (go_simp; done)
        rintro e wa ⟨A4, c4, l4, rfl, hl4, ho4, hb4⟩
        have hlow4 : Below w4.heap.size w4 wa := (Below.refl _ _).drew.trans (hb4.mono (Nat.le_refl _))
        refine ⟨_, rfl, _, (by (simp only [Act.put, List.setIfInBounds_toArray, List.set_cons_zero, List.set_cons_succ]; rfl)), ?_⟩
        refine mx_end hlow4 ?_
        have b4 := b3.below hlow4
        have HPL4 : Hid (BookOk (plainB (putR L p ⟨⟨⟨p⟩⟩, v, k, ⟨A4, c4, l4⟩⟩))) := Lib.hid (by
          rw [plainB_put, show EV.ep ⟨⟨⟨p⟩⟩, v, k, ⟨A4, c4, l4⟩⟩ = (v, k, l) by show (v, k, l4) = _; rw [hl4.out], ← HT3.out]
          exact HPL.out)
        have hlen3 : (mapB L).length < maxLen := by rw [mapB_len]; simp only [maxLen]; omega
        obtain ⟨wb, hrun5, hm5, hg5, _⟩ := (hm3.below hlow4).store Try.underlying9 Try.underlying67 p (by simp only [maxLen]; omega) (.agg #[.string ⟨⟨p⟩⟩, .int .u64 v, .int .i64 k, .slice A4 l4.length c4]) hlen3
        have hlt3 := hm3.lt
        have htb3 := b3.lt
        have hoo : EV.inB wa p ⟨⟨⟨p⟩⟩, v, k, ⟨A4, c4, l4⟩⟩ := ⟨own_base ho4 (fun _ _ => Nat.zero_le _), rfl⟩
        have HD := Lib.hid (BookAt.stored (o := ⟨⟨⟨p⟩⟩, v, k, ⟨A4, c4, l4⟩⟩) b4 hm5 hg5 hne3 (hm3.below hlow4) (fun x hx => (hok3 x hx).below hlow4) hoo HPL4.out)
        have HPP : Hid (plainB (putR L p ⟨⟨⟨p⟩⟩, v, k, ⟨A4, c4, l4⟩⟩) = T) := by show _ = _; rw [plainB_put, HT3.out]; show putR (plainB L) p (v, k, l4) = _; rw [hl4.out]
        have hfr5 := hfr3.then_below hlow4
        clear b4 hm5 hm3 hok3 hoo ho4 b3 hx3 HY3 hl4 HPL4
        go_wp2_with fail
        go_ret
        refine ⟨rfl, ⟨some mb, _, HD.out, HPP, fun m e => by injection e with e; subst e; exact .inl rfl⟩, ?_⟩
        exact hfr5.trans (Fr.of_grown hg5 (S := fun g => some mb = some g) (fun k _ e => e)) (fun x hx e => by exact .inr e)
      · have hvd : decide (o.v < v) = false := decide_eq_false hvo
        have HR3 := Lib.hid HR1.out
        rw [if_pos (by show v ≤ o.v; omega)] at HR3
        obtain ⟨rfl, rfl⟩ : T = plainB L ∧ M = 31 := by simpa using HR3.out
        rw [hvd] at HN
        clear HR1 HR3 ho hg hvo hvd
        go_wp2_with fail
        refine HN.out.mono ?_
        rintro e w4 ⟨rfl, hb4⟩
        have hw4 := hw3.trans (hb4.mono hw3.size)
        go_wp2_with fail
        go_ret
        exact ⟨rfl, BookTo.of HB.out hw4⟩
  · have hCb : (C != 0) = true := by simpa using hC0
    obtain ⟨rfl, rfl⟩ : T = plainB L ∧ M = C := by
      have := HR.out
      unfold putP putB at this
      rw [if_pos (by rw [← HC.out]; exact hC0), ← HC.out] at this
      simpa using this
    go_wp2_with fail
    go_ret
    exact ⟨rfl, BookTo.of HB.out hw1⟩

end Go.Proofs.Ytdnljmncdbcgeaa

/-
  DERIVED: THE SHELF's CONTRACTS AT THIS DUMP, IN PLAIN WORDS (tools/lay-plain.mjs out of 'TryLays.lean', which tools/lay-shelf.mjs wrote): THE SAME DECLARATIONS UNDER THE SAME NAMES: 'import', 'namespace', 'open', 'def', 'theorem' AND NOTHING ELSE: no command of the shelf's: FOR A HAND-IN. Each laying: the table of numbers ('.._ren') and one theorem, a field a fact of the dump's own or the kernel's comparison; each contract: ONE APPLICATION.
-/
namespace Go.Proofs
open Go.Shelf
def Try.sortT_ren : Go.Shelf.Ren := ⟨fun | 6 => 72 | 15 => 124 | 14 => 123 | 28 => 158 | 29 => 159 | 20 => 150 | 21 => 151 | 22 => 152 | 23 => 153 | 24 => 154 | 25 => 155 | 26 => 156 | 27 => 157 | 46 => 173 | 47 => 174 | 48 => 175 | 49 => 176 | 50 => 177 | 57 => 187 | n => n, fun | 22 => 63 | 24 => 9 | 25 => 113 | 3 => 3 | 39 => 191 | 0 => 0 | 53 => 222 | 55 => 23 | 4 => 4 | 46 => 215 | 45 => 214 | 50 => 219 | 5 => 5 | 9 => 9 | 66 => 231 | 70 => 234 | 76 => 237 | 77 => 238 | n => n, fun | n => n⟩
theorem Try.sortT : Go.Proofs.SlLaysF.n6 Try.prog Try.sortT_ren := {
  mixed := by kernel_rfl
  f6 := ⟨Try.f72.name, by decide, Try.func72.trans (congrArg some (by kernel_rfl))⟩
  f14 := ⟨Try.f123.name, by decide, Try.func123.trans (congrArg some (by kernel_rfl))⟩
  f15 := Try.func124.trans (congrArg some (by kernel_rfl))
  f20 := ⟨Try.f150.name, by decide, Try.func150.trans (congrArg some (by kernel_rfl))⟩
  f21 := ⟨Try.f151.name, by decide, Try.func151.trans (congrArg some (by kernel_rfl))⟩
  f22 := ⟨Try.f152.name, by decide, Try.func152.trans (congrArg some (by kernel_rfl))⟩
  f23 := ⟨Try.f153.name, by decide, Try.func153.trans (congrArg some (by kernel_rfl))⟩
  f24 := ⟨Try.f154.name, by decide, Try.func154.trans (congrArg some (by kernel_rfl))⟩
  f25 := ⟨Try.f155.name, by decide, Try.func155.trans (congrArg some (by kernel_rfl))⟩
  f26 := ⟨Try.f156.name, by decide, Try.func156.trans (congrArg some (by kernel_rfl))⟩
  f27 := ⟨Try.f157.name, by decide, Try.func157.trans (congrArg some (by kernel_rfl))⟩
  f28 := Try.func158.trans (congrArg some (by kernel_rfl))
  f29 := Try.func159.trans (congrArg some (by kernel_rfl))
  f46 := ⟨Try.f173.name, by decide, Try.func173.trans (congrArg some (by kernel_rfl))⟩
  f47 := Try.func174.trans (congrArg some (by kernel_rfl))
  f48 := Try.func175.trans (congrArg some (by kernel_rfl))
  f49 := ⟨Try.f176.name, by decide, Try.func176.trans (congrArg some (by kernel_rfl))⟩
  f50 := ⟨Try.f177.name, by decide, Try.func177.trans (congrArg some (by kernel_rfl))⟩
  f57 := ⟨Try.f187.name, by decide, Try.func187.trans (congrArg some (by kernel_rfl))⟩
  t0 := Try.underlying0
  a0 := Try.isAgg0
  z0 := Try.sizeOf0
  v0 := Try.zeroValue0
  t3 := Try.underlying3
  a3 := Try.isAgg3
  z3 := Try.sizeOf3
  v3 := Try.zeroValue3
  t4 := Try.underlying4
  a4 := Try.isAgg4
  z4 := Try.sizeOf4
  v4 := Try.zeroValue4
  t5 := Try.underlying5
  a5 := Try.isAgg5
  z5 := Try.sizeOf5
  v5 := Try.zeroValue5
  t9 := Try.underlying9
  a9 := Try.isAgg9
  z9 := Try.sizeOf9
  v9 := Try.zeroValue9
  t22 := Try.underlying63
  a22 := Try.isAgg63
  z22 := Try.sizeOf63
  v22 := Try.zeroValue63
  a24 := Try.isAgg9
  z24 := Try.sizeOf9
  t25 := Try.underlying113
  a25 := Try.isAgg113
  z25 := Try.sizeOf113
  v25 := Try.zeroValue113
  t39 := Try.underlying191
  a39 := Try.isAgg191
  z39 := Try.sizeOf191
  v39 := Try.zeroValue191
  t45 := Try.underlying214
  a45 := Try.isAgg214
  z45 := Try.sizeOf214
  v45 := Try.zeroValue214
  t46 := Try.underlying215
  a46 := Try.isAgg215
  z46 := Try.sizeOf215
  v46 := Try.zeroValue215
  t50 := Try.underlying219
  a50 := Try.isAgg219
  z50 := Try.sizeOf219
  v50 := Try.zeroValue219
  t53 := Try.underlying222
  a53 := Try.isAgg222
  z53 := Try.sizeOf222
  v53 := Try.zeroValue222
  t55 := Try.underlying23
  a55 := Try.isAgg23
  z55 := Try.sizeOf23
  v55 := Try.zeroValue23
  t66 := Try.underlying231
  a66 := Try.isAgg231
  z66 := Try.sizeOf231
  v66 := Try.zeroValue231
  t70 := Try.underlying234
  a70 := Try.isAgg234
  z70 := Try.sizeOf234
  v70 := Try.zeroValue234
  t76 := Try.underlying237
  a76 := Try.isAgg237
  z76 := Try.sizeOf237
  v76 := Try.zeroValue237
  t77 := Try.underlying238
  a77 := Try.isAgg238
  z77 := Try.sizeOf238
  v77 := Try.zeroValue238 }
def Try.cloneM_ren : Go.Shelf.Ren := ⟨fun | 5 => 169 | 7 => 125 | n => n, fun | 23 => 141 | 25 => 9 | 3 => 26 | 4 => 4 | 20 => 20 | n => n, fun | n => n⟩
theorem Try.cloneM : Go.Proofs.SlLaysW.n5 Try.prog Try.cloneM_ren := {
  mixed := by kernel_rfl
  f5 := ⟨Try.f169.name, by decide, Try.func169.trans (congrArg some (by kernel_rfl))⟩
  f7 := Try.func125.trans (congrArg some (by kernel_rfl))
  t4 := Try.underlying4
  a4 := Try.isAgg4
  z4 := Try.sizeOf4
  v4 := Try.zeroValue4
  t20 := Try.underlying20
  a20 := Try.isAgg20
  z20 := Try.sizeOf20
  v20 := Try.zeroValue20
  t23 := Try.underlying141
  a23 := Try.isAgg141
  z23 := Try.sizeOf141
  v23 := Try.zeroValue141 }
def Try.keysB_ren : Go.Shelf.Ren := ⟨fun | 7 => 110 | 10 => 146 | n => n, fun | 23 => 67 | 26 => 9 | 3 => 28 | 28 => 122 | 0 => 0 | 27 => 121 | 33 => 114 | 4 => 4 | n => n, fun | n => n⟩
theorem Try.keysB : Go.Proofs.SlLaysZ.n7 Try.prog Try.keysB_ren := {
  mixed := by kernel_rfl
  f7 := ⟨Try.f110.name, by decide, Try.func110.trans (congrArg some (by kernel_rfl))⟩
  f10 := ⟨Try.f146.name, by decide, Try.func146.trans (congrArg some (by kernel_rfl))⟩
  t0 := Try.underlying0
  a0 := Try.isAgg0
  z0 := Try.sizeOf0
  v0 := Try.zeroValue0
  t4 := Try.underlying4
  a4 := Try.isAgg4
  z4 := Try.sizeOf4
  v4 := Try.zeroValue4
  t23 := Try.underlying67
  a23 := Try.isAgg67
  z23 := Try.sizeOf67
  v23 := Try.zeroValue67
  t26 := Try.underlying9
  a26 := Try.isAgg9
  z26 := Try.sizeOf9
  v26 := Try.zeroValue9
  t27 := Try.underlying121
  a27 := Try.isAgg121
  z27 := Try.sizeOf121
  v27 := Try.zeroValue121
  t28 := Try.underlying122
  a28 := Try.isAgg122
  z28 := Try.sizeOf122
  v28 := Try.zeroValue122
  t33 := Try.underlying114
  a33 := Try.isAgg114
  z33 := Try.sizeOf114
  v33 := Try.zeroValue114 }
def Try.collectB_ren : Go.Shelf.Ren := ⟨fun | 8 => 119 | 11 => 149 | n => n, fun | 26 => 9 | 28 => 122 | 24 => 63 | 0 => 0 | 33 => 114 | 4 => 4 | n => n, fun | n => n⟩
theorem Try.collectB : Go.Proofs.SlLaysZ.n8 Try.prog Try.collectB_ren := {
  mixed := by kernel_rfl
  f8 := ⟨Try.f119.name, by decide, Try.func119.trans (congrArg some (by kernel_rfl))⟩
  f11 := ⟨Try.f149.name, by decide, Try.func149.trans (congrArg some (by kernel_rfl))⟩
  t0 := Try.underlying0
  a0 := Try.isAgg0
  z0 := Try.sizeOf0
  v0 := Try.zeroValue0
  t24 := Try.underlying63
  a24 := Try.isAgg63
  z24 := Try.sizeOf63
  v24 := Try.zeroValue63
  t26 := Try.underlying9
  a26 := Try.isAgg9
  z26 := Try.sizeOf9
  v26 := Try.zeroValue9
  t28 := Try.underlying122
  a28 := Try.isAgg122
  z28 := Try.sizeOf122
  v28 := Try.zeroValue122
  i26 := by kernel_rfl }
def Try.cloneB_ren : Go.Shelf.Ren := ⟨fun | 5 => 74 | 7 => 125 | n => n, fun | 23 => 67 | 25 => 9 | 3 => 28 | 4 => 4 | 20 => 20 | n => n, fun | n => n⟩
theorem Try.cloneB : Go.Proofs.SlLaysW.n5 Try.prog Try.cloneB_ren := {
  mixed := by kernel_rfl
  f5 := ⟨Try.f74.name, by decide, Try.func74.trans (congrArg some (by kernel_rfl))⟩
  f7 := Try.func125.trans (congrArg some (by kernel_rfl))
  t4 := Try.underlying4
  a4 := Try.isAgg4
  z4 := Try.sizeOf4
  v4 := Try.zeroValue4
  t20 := Try.underlying20
  a20 := Try.isAgg20
  z20 := Try.sizeOf20
  v20 := Try.zeroValue20
  t23 := Try.underlying67
  a23 := Try.isAgg67
  z23 := Try.sizeOf67
  v23 := Try.zeroValue67 }
def Try.keysC_ren : Go.Shelf.Ren := ⟨fun | 7 => 68 | 10 => 120 | n => n, fun | 23 => 118 | 26 => 9 | 3 => 4 | 28 => 122 | 0 => 0 | 27 => 121 | 33 => 114 | 4 => 4 | n => n, fun | n => n⟩
theorem Try.keysC : Go.Proofs.SlLaysZ.n7 Try.prog Try.keysC_ren := {
  mixed := by kernel_rfl
  f7 := ⟨Try.f68.name, by decide, Try.func68.trans (congrArg some (by kernel_rfl))⟩
  f10 := ⟨Try.f120.name, by decide, Try.func120.trans (congrArg some (by kernel_rfl))⟩
  t0 := Try.underlying0
  a0 := Try.isAgg0
  z0 := Try.sizeOf0
  v0 := Try.zeroValue0
  t4 := Try.underlying4
  a4 := Try.isAgg4
  z4 := Try.sizeOf4
  v4 := Try.zeroValue4
  t23 := Try.underlying118
  a23 := Try.isAgg118
  z23 := Try.sizeOf118
  v23 := Try.zeroValue118
  t26 := Try.underlying9
  a26 := Try.isAgg9
  z26 := Try.sizeOf9
  v26 := Try.zeroValue9
  t27 := Try.underlying121
  a27 := Try.isAgg121
  z27 := Try.sizeOf121
  v27 := Try.zeroValue121
  t28 := Try.underlying122
  a28 := Try.isAgg122
  z28 := Try.sizeOf122
  v28 := Try.zeroValue122
  t33 := Try.underlying114
  a33 := Try.isAgg114
  z33 := Try.sizeOf114
  v33 := Try.zeroValue114 }
end Go.Proofs

/- slices.SortFunc of texts by name.Compare: a row of the call's own, in the paths' order. -/
namespace Go.Proofs.Ytdnljmncdbcgeaa
open Go.Shelf Go.RowKit Go.Lib Go.Sort

/-- a text that is no longer than a text may be -/
abbrev TxtB := { l : List UInt8 // l.length ≤ 9223372036854775807 }
instance : Inhabited TxtB := ⟨⟨[], by simp⟩⟩
def txtV (x : TxtB) : Value := .string ⟨⟨x.1⟩⟩
def cmpX (x y : TxtB) : Int := cmpT x.1 y.1

section
variable {α : Type} [Inhabited α] {enc : α → Value}
theorem heap_sortedG {w : World} {g n : Nat} {os : Array Obj} {cur : Array Value} {e : TypeId} {fr : Nat × Nat} (d : Array α) (hb : w.heap[g]? = some (.cells cur e fr)) :
    (grow (putRow enc (Sort.ahead w n) g 0 d) os).heap[g]? = some (.cells (putCells enc 0 d cur) e fr) := by
  have hg : g < w.heap.size := (Array.getElem?_eq_some_iff.1 hb).1
  rw [heap_grow_old _ _ (by simpa using hg)]
  simp [putRow, mapBlock, Sort.ahead, Array.getElem?_modify, hb, onCells]
theorem grownBy_sortedG {w : World} {g n : Nat} {os : Array Obj} (d : Array α) : w.grownBy (grow (putRow enc (Sort.ahead w n) g 0 d) os) (some g) := by
  refine ⟨rfl, rfl, rfl, by simp, fun k hk hne => ?_⟩
  rw [heap_grow_old _ _ (by simpa using hk)]
  have : g ≠ k := fun e => hne (by rw [e])
  simp [putRow, mapBlock, Sort.ahead, Array.getElem?_modify, this]
theorem take_putCellsG (cur : Array Value) (ts : List α) (h : ts.length ≤ cur.size) : (putCells enc 0 ts.toArray cur).toList.take ts.length = ts.map enc := by
  apply List.ext_getElem?
  intro j
  by_cases hj : j < ts.length
  · rw [List.getElem?_take_of_lt hj, Array.getElem?_toList]
    simp [putCells, hj, show j < cur.size by omega]
  · rw [List.getElem?_take_eq_none (by omega), List.getElem?_eq_none (by simp; omega)]
theorem ownsRow_sortedG {w : World} {base g cap n : Nat} {e : TypeId} {os : Array Obj} {cur : Array Value} {ss ts : List α} (hl : ts.length = ss.length) (hbase : base ≤ g) (hb : w.heap[g]? = some (.cells cur e (0, 0)))
    (h1 : ss.length ≤ cap) (h2 : cap ≤ maxLen) (h3 : cur.size = cap * 1) :
    (grow (putRow enc (Sort.ahead w n) g 0 ts.toArray) os).ownsRow base e 1 (.slice (some ⟨g, 0, none⟩) ss.length cap) ss.length (ts.map enc) :=
  ⟨by simp [hl], .inr ⟨g, cap, _, rfl, hbase, heap_sortedG _ hb, h1, h2, by simp [putCells, h3], by rw [Nat.mul_one, ← hl]; exact take_putCellsG cur ts (by omega)⟩⟩
theorem holds_of_blockG {w : World} {g : Nat} {cur : Array Value} {e : TypeId} {ss : List α} (hb : w.heap[g]? = some (.cells cur e (0, 0))) (ht : cur.toList.take ss.length = ss.map enc) : Holds enc w g 0 ss.toArray := by
  intro j hj
  have hj' : j < ss.length := by simpa using hj
  refine ⟨?_, by simp [World.frozen?, hb]⟩
  have h1 : (cur.toList.take ss.length)[j]? = (ss.map enc)[j]? := by rw [ht]
  rw [List.getElem?_take_of_lt hj'] at h1
  simp only [World.cell?, hb, Nat.zero_add]
  simp only [Option.isSome_none, Bool.false_eq_true, if_false]
  rw [← Array.getElem?_toList, h1]
  simp [hj']
end
theorem cmpX_lt (x y : TxtB) : ltOf cmpX x y = decide (cmpT x.1 y.1 < 0) := rfl
theorem swoX : SWO (ltOf cmpX) where
  irrefl x := by rw [cmpX_lt, cmpT_self]; simp
  trans x y z h1 h2 := by
    rw [cmpX_lt] at *
    simp only [decide_eq_true_eq] at *
    exact ordT.trans _ _ _ h1 h2
  ntrans x y z h1 h2 := by
    rw [cmpX_lt] at *
    have := leT_trans z.1 y.1 x.1 (by simpa [leT] using h2) (by simpa [leT] using h1)
    simpa [leT] using this
theorem totX (x y : TxtB) (h1 : ltOf cmpX x y = false) (h2 : ltOf cmpX y x = false) : x = y := by
  rw [cmpX_lt] at *
  exact Subtype.ext (leT_anti x.1 y.1 (by simpa [leT] using h2) (by simpa [leT] using h1))
theorem cmpReadsX (blk off size : Nat) (w : World) : CmpReads Try.prog 60 #[] txtV cmpX blk off size w := by
  intro m os dk _ x y
  refine (compare_any ⟨⟨x.1⟩⟩ ⟨⟨y.1⟩⟩ x.2 y.2 _).mono ?_
  rintro e w' ⟨rfl, hq⟩
  exact ⟨rfl, hq⟩
theorem txts : ∀ (ss : List (List UInt8)), (∀ x ∈ ss, x.length ≤ 140737488355328) → ∃ ts : List TxtB, ts.map Subtype.val = ss
  | [], _ => ⟨[], rfl⟩
  | x :: ss, h => by
    obtain ⟨ts, e⟩ := txts ss (fun y hy => h y (by simp [hy]))
    exact ⟨⟨x, by have := h x (by simp); omega⟩ :: ts, by rw [List.map_cons, e]⟩
set_option maxHeartbeats 1000000 in
/-- a row of texts is sorted by name.Compare -/
theorem sortsT : SortsT := by
  intro base A c ss w hown hl hss
  obtain ⟨ts, hts⟩ := txts ss hl
  have hlen : ts.length = ss.length := by rw [← hts, List.length_map]
  have hmv : ss.map stv = ts.map txtV := by rw [← hts, List.map_map]; rfl
  rcases hown.2 with ⟨hnil, h0⟩ | ⟨g, cap, cur, hv, hbase, hb, h1, h2, h3, h4⟩
  · obtain ⟨rfl, hl0, rfl⟩ : A = none ∧ ss.length = 0 ∧ c = 0 := by simpa using hnil
    obtain rfl : ss = [] := List.eq_nil_of_length_eq_zero hl0
    have hcon := AnyF.slices_SortFunc_none { Try.sortT with } none 0 (.func (.func 60) #[] #[]) w
    change Calls Try.prog 72 _ _ _ at hcon
    refine hcon.mono ?_
    rintro e w' ⟨rfl, rfl⟩
    exact ⟨rfl, by simpa using hown, World.grownBy.refl _ _⟩
  · obtain ⟨rfl, rfl⟩ : A = some ⟨g, 0, none⟩ ∧ c = cap := by simpa using hv
    have eg : ∀ args w, (callFunc 60 args).run Try.prog w = .ok (.enter 60 args) w := enters_of Try.func60 (by kernel_rfl) rfl
    have hglt : g < w.heap.size := (Array.getElem?_eq_some_iff.1 hb).1
    have hH : Holds txtV w g 0 ts.toArray := holds_of_blockG hb (by rw [hlen, ← hmv]; simpa using h4)
    have hbig : ss.length < 4611686018427387904 := by omega
    have hcon := Any.slices_SortFunc_total Try.sortT txtV (fun _ => rfl) cmpX swoX 60 #[] g 0 c ts.toArray w eg (cmpReadsX g 0 ts.toArray.size w).lays hH hglt (by simpa [hlen] using hbig) totX
    change Calls Try.prog 72 _ _ _ at hcon
    rw [show ts.toArray.size = ss.length by simp [hlen]] at hcon
    refine hcon.mono ?_
    rintro e w' ⟨rfl, n, os, rfl⟩
    have hms : (ts.mergeSort fun x y => !(ltOf cmpX) y x).map Subtype.val = ss.mergeSort leT := by
      rw [← hts]
      exact List.map_mergeSort (fun a _ b _ => rfl)
    refine ⟨rfl, ?_, ?_⟩
    · have := ownsRow_sortedG (enc := txtV) (n := n) (os := os) (ts := ts.mergeSort fun x y => !(ltOf cmpX) y x) (ss := ts) (by rw [List.length_mergeSort]) hbase hb (by omega) h2 h3
      rw [hlen] at this
      have e2 : (ss.mergeSort leT).map stv = (ts.mergeSort fun x y => !(ltOf cmpX) y x).map txtV := by rw [← hms, List.map_map]; rfl
      rw [e2]
      exact this
    · exact grownBy_sortedG _
end Go.Proofs.Ytdnljmncdbcgeaa

/- book.Book's paths, in order. -/
namespace Go.Proofs.Ytdnljmncdbcgeaa
open Go.RowKit Go.Maps Go.Sort Go.Shelf

theorem keysB_any (mo : Option Nat) (W : World) : Calls Try.prog 110 #[.map mo] W fun e w' => e = .returned (.func (.func 146) #[] #[.pointer (some ⟨W.heap.size, 0, none⟩)]) ∧ w' = W.alloc (.cells #[.map mo] 67) :=
  (callsIn_wide (n := 5)).1 (AnyZ.keys_in Try.keysB Fence.wide 5 trivial rfl mo W)
set_option maxRecDepth 100000 in
set_option maxHeartbeats 1000000 in
theorem collectB_any {mb : Nat} {L : List (List UInt8 × Value)} (w : World) (h : MapAt w Try.prog 9 mb L) (hl : L.length ≤ 1000000) :
    Calls Try.prog 119 #[.func (.func 146) #[] #[.pointer (some ⟨w.heap.size, 0, none⟩)]] (w.alloc (.cells #[.map (some mb)] 67)) fun e w' => ∃ A c, ∃ ss : List (List UInt8), e = .returned (.slice A ss.length c) ∧ w'.ownsRow w.heap.size 9 1 (.slice A ss.length c) ss.length (ss.map stv) ∧ Hid (ss.Perm (keysR L)) ∧ Below w.heap.size w w' := by
  obtain ⟨D, hown, ht⟩ := h.own
  obtain ⟨hp, hz⟩ := own_keys hown Try.underlying9 ht h.sort
  have hseq : SeqGives Fence.wide 3 Try.prog 146 #[.pointer (some ⟨w.heap.size, 0, none⟩)] encStr (fun ss => ss.Perm (strKeys D)) (Maps.size D) (w.alloc (.cells #[.map (some mb)] 67)) :=
    AnyZ.keys_gives (ρ := Try.keysB_ren) { Try.keysB with } Fence.wide _ trivial rfl (by omega) w.heap.size mb L.length D _ (by simp) (by simp) (by
      obtain ⟨es, clock, hb, Ft, hs, hD⟩ := hown
      exact ⟨es, clock, (Below.heap_alloc _ _ mb h.lt).trans hb, Ft, hs, hD⟩)
  have cC := AnyZ.collect_in Try.collectB Fence.wide 5 trivial trivial rfl (by omega) 146 #[.pointer (some ⟨w.heap.size, 0, none⟩)] trivial (enters_of Try.func146 (by kernel_rfl) rfl) _ _ (by rw [hz]; simp only [maxLen]; omega) (by rw [hz]; omega) _ hseq
  change CallsIn _ _ Try.prog 119 _ _ _ at cC
  refine ((callsIn_wide (n := 5)).1 cC).mono ?_
  rintro e w' ⟨v, ss, rfl, hS, hrow, hnil, hb⟩
  have hrow2 := own_base (base' := w.heap.size) hrow (fun g hg => by have := (hrow.lt g hg).1; simp at this; omega)
  obtain ⟨A, c, rfl, _⟩ := own_form hrow2
  exact ⟨A, c, ss, rfl, hrow2, hS.trans hp.symm, ((Below.refl _ w).alloc (Nat.le_refl _) _).trans (hb.mono (by simp))⟩
set_option maxRecDepth 100000 in
set_option maxHeartbeats 1000000 in
theorem collectB_nil (w : World) :
    Calls Try.prog 119 #[.func (.func 146) #[] #[.pointer (some ⟨w.heap.size, 0, none⟩)]] (w.alloc (.cells #[.map none] 67)) fun e w' => ∃ A c, ∃ ss : List (List UInt8), e = .returned (.slice A ss.length c) ∧ w'.ownsRow w.heap.size 9 1 (.slice A ss.length c) ss.length (ss.map stv) ∧ Hid (ss.Perm (keysR ([] : List (List UInt8 × Value)))) ∧ Below w.heap.size w w' := by
  have hseq : SeqGives Fence.wide 3 Try.prog 146 #[.pointer (some ⟨w.heap.size, 0, none⟩)] encStr (fun ss => ss = []) 0 (w.alloc (.cells #[.map none] 67)) :=
    AnyZ.keys_gives_nil (ρ := Try.keysB_ren) { Try.keysB with } Fence.wide _ trivial rfl w.heap.size _ (by simp) (by simp)
  have cC := AnyZ.collect_in Try.collectB Fence.wide 5 trivial trivial rfl (by omega) 146 #[.pointer (some ⟨w.heap.size, 0, none⟩)] trivial (enters_of Try.func146 (by kernel_rfl) rfl) _ _ (by simp only [maxLen]; omega) (by omega) _ hseq
  change CallsIn _ _ Try.prog 119 _ _ _ at cC
  refine ((callsIn_wide (n := 5)).1 cC).mono ?_
  rintro e w' ⟨v, ss, rfl, hS, hrow, hnil, hb⟩
  have hrow2 := own_base (base' := w.heap.size) hrow (fun g hg => by have := (hrow.lt g hg).1; simp at this; omega)
  obtain ⟨A, c, rfl, _⟩ := own_form hrow2
  exact ⟨A, c, ss, rfl, hrow2, by show ss.Perm _; rw [hS]; exact List.Perm.refl _, ((Below.refl _ w).alloc (Nat.le_refl _) _).trans (hb.mono (by simp))⟩
/-- a map or none, as a row -/
def MapO (w : World) (mo : Option Nat) (L : List (List UInt8 × Value)) : Prop := (mo = none ∧ L = []) ∨ ∃ mb, mo = some mb ∧ MapAt w Try.prog 9 mb L
theorem MapO.sort {w : World} {mo : Option Nat} {L : List (List UInt8 × Value)} (h : MapO w mo L) : SortR L := by
  rcases h with ⟨_, rfl⟩ | ⟨mb, _, hm⟩
  · exact sortR_nil
  · exact hm.sort
theorem collectO_any {mo : Option Nat} {L : List (List UInt8 × Value)} (w : World) (h : MapO w mo L) (hl : L.length ≤ 1000000) :
    Calls Try.prog 119 #[.func (.func 146) #[] #[.pointer (some ⟨w.heap.size, 0, none⟩)]] (w.alloc (.cells #[.map mo] 67)) fun e w' => ∃ A c, ∃ ss : List (List UInt8), e = .returned (.slice A ss.length c) ∧ w'.ownsRow w.heap.size 9 1 (.slice A ss.length c) ss.length (ss.map stv) ∧ Hid (ss.Perm (keysR L)) ∧ Below w.heap.size w w' := by
  rcases h with ⟨rfl, rfl⟩ | ⟨mb, rfl, hm⟩
  · exact collectB_nil w
  · exact collectB_any w hm hl
set_option maxRecDepth 100000 in
set_option maxHeartbeats 1000000 in
theorem sortedB_any {mo : Option Nat} {L : List (List UInt8 × Value)} (w : World) (h : MapO w mo L) (hl : L.length ≤ 1000000) (hk : ∀ x ∈ L, x.1.length ≤ 140737488355328) :
    Calls Try.prog 67 #[.func (.func 146) #[] #[.pointer (some ⟨w.heap.size, 0, none⟩)], .func (.func 60) #[] #[]] (w.alloc (.cells #[.map mo] 67)) fun e w' => ∃ A c, e = .returned (.slice A L.length c) ∧ w'.ownsRow w.heap.size 9 1 (.slice A L.length c) L.length ((keysR L).map stv) ∧ Below w.heap.size w w' := by
  have HC := Lib.hid (collectO_any w h hl)
  have HS := Lib.hid h.sort
  have HK := Lib.hid hk
  clear h hk
  go_enter Try.func67, Try.ntmps67
  go_wp2_with fail
  refine HC.out.mono ?_
  rintro e w1 ⟨A, c, ss, rfl, hr, hp, hb⟩
  have hsl : ss.length = L.length := by rw [hp.out.length_eq, keys_len]
  have hmem : ∀ k, k ∈ ss ↔ k ∈ keysR L := fun k => hp.out.mem_iff
  have hfin : ss.mergeSort leT = keysR L := by
    have := sort_keys HS.out (fun _ => true) (hp.out.nodup_iff.2 HS.out.nodup) (fun k => by simp [hmem k])
    rwa [List.filter_eq_self.2 (fun _ _ => rfl)] at this
  have HT := sortsT w.heap.size A c ss w1 hr (fun x hx => by
    obtain ⟨y, hy, rfl⟩ := List.mem_map.1 ((hmem x).1 hx)
    exact HK.out y hy) (by omega)
  rw [hfin] at HT
  have hab : ∀ g, ablk A = some g → w.heap.size ≤ g := fun g hg => ((Row.of_own hr).lt g hg).1
  replace HT := Lib.hid HT
  have HSL := Lib.hid hsl
  clear hr hp hmem hfin HC hsl
  go_wp2_with fail
  refine HT.out.mono ?_
  rintro e w2 ⟨rfl, hr2, hg2⟩
  rw [HSL.out] at hr2
  rw [HSL.out]
  have HR := Lib.hid hr2
  have hw2 := hb.trans (grown_below hg2 hb.size hab)
  clear HT hr2 hg2 hb
  go_wp2_with fail
  go_ret
  exact ⟨A, c, rfl, HR.out, hw2⟩
set_option maxRecDepth 100000 in
set_option maxHeartbeats 1000000 in
/-- the paths of a book -/
theorem bookPaths_any (bb : Nat) (mo : Option Nat) (L : List (List UInt8 × EV)) (s : Int) (w : World) (h : BookAt w bb mo L s) :
    Calls Try.prog 58 #[.pointer (some ⟨bb, 0, none⟩)] w fun e w' => ∃ A c, e = .returned (.slice A L.length c) ∧ w'.ownsRow w.heap.size 9 1 (.slice A L.length c) L.length ((keysR L).map stv) ∧ Below w.heap.size w w' := by
  obtain ⟨_, c1⟩ := h.cells
  have hm : MapO w mo (mapB L) := by
    rcases h.map with ⟨e, e2⟩ | ⟨mb, e, hm⟩
    · exact .inl ⟨e, by rw [e2]; rfl⟩
    · exact .inr ⟨mb, e, hm⟩
  have hkm : keysR (mapB L) = keysR L := by simp [keysR, mapB, Function.comp_def]
  have HSB := sortedB_any w hm (by rw [mapB_len]; exact Nat.le_trans h.len (by omega)) (fun x hx => by
    obtain ⟨y, hy, rfl⟩ := List.mem_map.1 hx
    exact Nat.le_trans (h.keys hy) (by omega))
  rw [mapB_len, hkm] at HSB
  replace HSB := Lib.hid HSB
  have HKE := Lib.hid (keysB_any mo w)
  clear h hm hkm
  go_enter Try.func58, Try.ntmps58
  go_wp2_with fail
  refine HKE.out.mono ?_
  rintro e w1 ⟨rfl, rfl⟩
  go_wp2_with fail
  refine HSB.out.mono ?_
  rintro e w2 ⟨A, c, rfl, hr, hb⟩
  have HR := Lib.hid hr
  clear hr HSB HKE
  go_wp2_with fail
  go_ret
  exact ⟨A, c, rfl, HR.out, hb⟩
set_option maxRecDepth 100000 in
theorem bookPaths_nil (w : World) : Calls Try.prog 58 #[.pointer none] w fun e w' => e = .returned (.slice none 0 0) ∧ w = w' := by
  go_enter Try.func58, Try.ntmps58
  go_wp2_with fail
  go_ret
  exact ⟨rfl, rfl⟩
end Go.Proofs.Ytdnljmncdbcgeaa

/- Rows of entries of the call's own, bytes and all; append of one. -/
namespace Go.Proofs.Ytdnljmncdbcgeaa
open Go.RowKit

theorem own_apartE {w : World} {base base' : Nat} {e e' : TypeId} {s s' n n' : Nat} {v v' : Value} {xs xs' : List Value} (h : w.ownsRow base e s v n xs) (h' : w.ownsRow base' e' s' v' n' xs') (hne : e ≠ e') : ∀ g, v.ownBlock = some g → v'.ownBlock ≠ some g := by
  rcases h.2 with ⟨rfl, _⟩ | ⟨g', cap, cur, rfl, _, hh, _⟩
  · simp [Value.ownBlock]
  · intro g he
    have e1 : g' = g := by simpa [Value.ownBlock] using he
    subst e1
    have hb : Blk w g' e _ := hh
    exact Blk.own_ne hb h' (fun e => hne e.symm)
def OwE (w : World) (base : Nat) (A : Option Addr) (c : Nat) (M : List EV) : Prop := w.ownsRow base 28 4 (.slice A M.length c) M.length (M.flatMap EV.cells)
theorem entry_info : (Try.prog.info? 28).map (fun i => (i.zero, i.size, i.bytes)) = some (some (.agg #[.string ⟨#[]⟩, .int .u64 0, .int .i64 0, .slice none 0 0]), 4, 56) := by kernel_rfl
theorem entry_one (L : List EV) : ∀ u ∈ L.flatMap EV.cells, u.oneCell' = true := by
  intro u hu
  obtain ⟨x, _, hx⟩ := List.mem_flatMap.1 hu
  simp only [EV.cells, List.mem_cons, List.not_mem_nil, or_false] at hx
  rcases hx with rfl | rfl | rfl | rfl <;> rfl
/-- entries, each of the call's own -/
structure EsOwn (w : World) (base : Nat) (A : Option Addr) (c : Nat) (M : List EV) : Prop where
  row : OwE w base A c M
  byt : ∀ x ∈ M, OwB w base (.slice x.x.A x.x.l.length x.x.c) x.x.l
theorem EsOwn.nil (w : World) (base : Nat) : EsOwn w base none 0 [] := ⟨World.ownsRow_nil _ _ _ _, by simp⟩
theorem EsOwn.below {w w' : World} {base : Nat} {A : Option Addr} {c : Nat} {M : List EV} (h : EsOwn w base A c M) (k : Below w.heap.size w w') : EsOwn w' base A c M := ⟨own_below h.row k, fun x hx => own_below (h.byt x hx) k⟩
theorem EsOwn.base {w : World} {base base' : Nat} {A : Option Addr} {c : Nat} {M : List EV} (h : EsOwn w base A c M) (hb : base' ≤ base) : EsOwn w base' A c M :=
  ⟨own_base h.row (fun g hg => Nat.le_trans hb (h.row.lt g hg).1), fun x hx => own_base (h.byt x hx) (fun g hg => Nat.le_trans hb ((h.byt x hx).lt g hg).1)⟩
theorem EsOwn.push {w w' : World} {base : Nat} {A A' : Option Addr} {c c' : Nat} {M : List EV} {y : EV} (h : EsOwn w base A c M) (hy : OwB w base (.slice y.x.A y.x.l.length y.x.c) y.x.l) (hr : OwE w' base A' c' (M ++ [y])) (hb : Below base w w')
    (hk : ∀ k, k < w.heap.size → (Value.slice A M.length c).ownBlock ≠ some k → w'.heap[k]? = w.heap[k]?) : EsOwn w' base A' c' (M ++ [y]) := by
  have hf : Fr (fun k => (Value.slice A M.length c).ownBlock = some k) w w' := ⟨hb.os, hb.tape, hb.output, hb.size, hk⟩
  refine ⟨hr, fun x hx => ?_⟩
  rcases List.mem_append.1 hx with hx | hx
  · exact own_fr (h.byt x hx) hf (own_apartE (h.byt x hx) h.row (by decide))
  · rw [List.mem_singleton.1 hx]
    exact own_fr hy hf (own_apartE hy h.row (by decide))
/-- append of one entry -/
theorem wpList_append_entry {w : World} {ops : Array Oper} {rest : List Oper} {o : Oper} {a : Act} {Q : Exit → Act → World → Prop} (hgd : o.guard = none) (s x : Operand) {t : TypeId} (hu : Try.prog.underlying t = some (.slice 28))
    (ho : o.op = .call { callee := .builtin .append, args := #[s, x], argTypes := #[t, t] })
    {base : Nat} {A : Option Addr} {c : Nat} {L : List EV} {y : EV} {g : Nat} (hs : a.eval s = .slice A L.length c) (hown : OwE w base A c L) (hx : a.eval x = .slice (some ⟨g, 0, none⟩) 1 1) (hr : Rd w (fun _ => True) 4 (some ⟨g, 0, none⟩) 1 (EV.cells y))
    (hsum : L.length + 1 ≤ 1099511627776) (hbase : base ≤ w.heap.size)
    (h : ∀ (A' : Option Addr) (c' : Nat) (w' : World), OwE w' base A' c' (L ++ [y]) → Below base w w' → (∀ k, k < w.heap.size → (Value.slice A L.length c).ownBlock ≠ some k → w'.heap[k]? = w.heap[k]?) → wpList Try.prog ops Q rest (a.put o.dst (.slice A' (L.length + 1) c')) w') : wpList Try.prog ops Q (o :: rest) a w := by
  obtain ⟨i0, hi0, hz0, hz1, hz2⟩ := info_parts entry_info
  refine wpList_append_any w hgd s x _ ho base 28 i0 _ 4 56 hu hi0 hz0 hz1 hz2 rfl (by omega) (.slice A L.length c) L.length (L.flatMap EV.cells) hs hown _ _ 1 1 (EV.cells y) hx hr (fun u hu => entry_one [y] u (by simpa using hu)) (by simp only [maxLen]; omega) (by omega) hbase ?_
  intro v' w' h1 h2 h3
  obtain ⟨A', c', rfl, _⟩ := own_form h1
  refine h A' c' w' ?_ (grown_below h2 hbase (fun g e => (hown.lt g e).1)) (fun k hk hne => h2.block k hk (fun e => hne e.symm))
  unfold OwE
  rw [List.length_append, List.flatMap_append, List.flatMap_cons, List.flatMap_nil, List.append_nil]
  exact h1
end Go.Proofs.Ytdnljmncdbcgeaa

/- book.Book: Entries. -/
namespace Go.Proofs.Ytdnljmncdbcgeaa
open Go.RowKit

/-- an entry, plainly -/
def EV.pl (o : EV) : List UInt8 × Int × Int × List UInt8 := (tl o.p, o.v, o.k, o.x.l)
theorem txt_atE {w : World} {base : Nat} {A : Option Addr} {c : Nat} {l : List (List UInt8)} {n : Nat} (hn : n = l.length) (h : w.ownsRow base 9 1 (.slice A n c) n (l.map stv)) {i : Nat} (hi : i < l.length) :
    ∃ b off, A = some ⟨b, off, none⟩ ∧ b < w.heap.size ∧ w.cell? ⟨b, off + i, none⟩ = some (stv l[i]) := by
  have hr : Rd w (fun _ => True) 1 A n (l.map stv) := Rd.of_own h (fun _ _ _ => trivial)
  obtain ⟨b, off, hA, _, hb, hc⟩ := hr.2 (by omega)
  exact ⟨b, off, hA, hb, hc i _ (by rw [List.getElem?_map, List.getElem?_eq_getElem hi]; rfl)⟩
set_option maxRecDepth 100000 in
set_option maxHeartbeats 1000000 in
theorem bookEntries_any (bb : Nat) (mo : Option Nat) (L : List (List UInt8 × EV)) (s : Int) (w : World) (h : BookAt w bb mo L s) :
    Calls Try.prog 17 #[.pointer (some ⟨bb, 0, none⟩)] w fun e w' => ∃ (A : Option Addr) (c : Nat) (M : List EV), e = .returned (.slice A M.length c) ∧ Hid (M.map EV.pl = plainB L) ∧ EsOwn w' w.heap.size A c M ∧ Below w.heap.size w w' := by
  have HP := Lib.hid (bookPaths_any bb mo L s w h)
  have HB := Lib.hid h
  have HK := Lib.hid (fun x (hx : x ∈ L) => h.keys hx)
  have HS := Lib.hid h.sort
  have HPL : Hid ((L.map fun x => x.2.pl) = plainB L) := Lib.hid h.pl
  have hll := h.len
  clear h
  go_enter Try.func17, Try.ntmps17
  go_wp2_with fail
  refine HP.out.mono ?_
  rintro e w1 ⟨A1, c1, rfl, ho, hb1⟩
  have HO := Lib.hid ho
  clear HP ho
  go_wp2_with fail
  go_loopw [2, 8] (fun ov iv wr => ∃ (i : Nat) (A : Option Addr) (c : Nat) (M : List EV), i ≤ L.length ∧ iv = .int .i64 (i : Int) ∧ ov = .slice A M.length c ∧ Hid (M.map EV.pl = (L.take i).map fun x => x.2.pl) ∧ M.length = i ∧ EsOwn wr w1.heap.size A c M ∧ Below w1.heap.size w1 wr) (fun _ iv _ => L.length - (intOf iv).toNat)
  case atStart => exact ⟨0, none, 0, [], Nat.zero_le _, rfl, rfl, rfl, rfl, EsOwn.nil _ _, Below.refl _ _⟩
  case round =>
    obtain ⟨i, A, c, M, hi, rfl, rfl, hM, hMi, hO, hb⟩ := hrel
    have hw1r := hb1.trans (hb.mono hb1.size)
    by_cases hlt : i < L.length
    · have hkl : (keysR L).length = L.length := keys_len L
      obtain ⟨b, off, hA, hbb, c0⟩ := txt_atE hkl.symm (own_below HO.out hb) (i := i) (by rw [hkl]; exact hlt)
      have hli : (keysR L)[i]'(by rw [hkl]; exact hlt) = L[i].1 := by simp [keysR]
      rw [hli] at c0
      have hm := List.getElem_mem hlt
      have hge : gotE L L[i].1 = L[i].2 := by unfold gotE; rw [HS.out.get hm]; rfl
      have HG := bookGet_any bb mo L s L[i].1 wr (HB.out.below hw1r) (by have := HK.out _ hm; simp only [maxLen]; omega)
      rw [hge] at HG
      have hps : (L.take (i + 1)).map (fun x => x.2.pl) = (L.take i).map (fun x => x.2.pl) ++ [L[i].2.pl] := by rw [List.take_succ_eq_append_getElem hlt, List.map_append]; rfl
      subst hA
      obtain ⟨x, hx⟩ : ∃ x, x = L[i] := ⟨_, rfl⟩
      rw [← hx] at c0 hps HG
      simp only [stv] at c0
      have HPS := Lib.hid hps
      have hMe := Lib.hid hMi
      replace HG := Lib.hid HG
      clear hps hge hx hli hm hkl
      go_wp2_with fail
      refine HG.out.mono ?_
      rintro e w2 ⟨q, v, k, A2, c2, l2, rfl, he, ho2, hb2⟩
      obtain ⟨y, hy⟩ : ∃ y : EV, y = ⟨q, v, k, ⟨A2, c2, l2⟩⟩ := ⟨_, rfl⟩
      have hw2 := hb.trans (hb2.mono hb.size)
      have ho3 : OwB w2 w1.heap.size (.slice y.x.A y.x.l.length y.x.c) y.x.l := by
        rw [hy]
        exact own_base ho2 (fun g hg => Nat.le_trans hb.size (ho2.lt g hg).1)
      have hpy : y.pl = x.2.pl := by
        obtain ⟨e1, e2, e3, e4⟩ := he.out
        rw [hy]
        unfold EV.pl
        dsimp only
        rw [e1, e2, e3, e4]
      have hba : Below w1.heap.size w1 (w2.alloc (.cells #[.string q, .int .u64 v, .int .i64 k, .slice A2 l2.length c2] 28)) := hw2.alloc hw2.size _
      have hal : Below w2.heap.size w2 (w2.alloc (.cells #[.string q, .int .u64 v, .int .i64 k, .slice A2 l2.length c2] 28)) := (Below.refl _ w2).alloc (Nat.le_refl _) _
      have hO3 := Lib.hid ((hO.below hb2).below hal)
      have ho4 := Lib.hid (own_below ho3 hal)
      have ra : Hid (Rd (w2.alloc (.cells #[.string q, .int .u64 v, .int .i64 k, .slice A2 l2.length c2] 28)) (fun _ => True) 4 (some ⟨w2.heap.size, 0, none⟩) 1 (EV.cells y)) := (Rd.lit (w := w2) (t := 28) (size := 4) (n := 1) (xs := EV.cells y) (by rw [hy]; rfl) rfl rfl).mono (fun _ _ _ => trivial)
      have HN : Hid ((M ++ [y]).map EV.pl = (L.take (i + 1)).map fun x => x.2.pl) := by
        show _ = _
        rw [List.map_append, List.map_cons, List.map_nil, hpy, HPS.out, hM.out]
      have hlb := Lib.hid (show M.length + 1 ≤ 1099511627776 by omega)
      clear hO ho2 ho3 hal hb2 he hpy hy HPS HG hM hb c0 hMi
      go_wp2_with (at_builtin; refine wpList_append_entry rfl (.tmp 12) (.tmp 16) (t := 22) rfl rfl rfl hO3.out.row rfl ra.out hlb.out hba.size ?_; intro A5 c5 w5 ho5 hb5 hk5)
      have hb6 := hba.trans hb5
      have hO5 := hO3.out.push ho4.out ho5 hb5 hk5
      have hl5 : (M ++ [y]).length = i + 1 := by rw [List.length_append, hMe.out]; rfl
      go_roundw
      case rel => exact ⟨i + 1, A5, c5, M ++ [y], hlt, by go_num, by simp, HN, hl5, hO5, hb6⟩
      case measure => simp [intOf]; omega
    · have e : i = L.length := by omega
      subst e
      have HN : Hid (M.map EV.pl = plainB L) := by
        show _ = _
        rw [hM.out, List.take_length, HPL.out]
      clear hM hMi
      go_wp2_with fail
      go_ret
      exact ⟨A, c, M, rfl, HN.out, hO.base hb1.size, hw1r⟩
end Go.Proofs.Ytdnljmncdbcgeaa
