/- Drawn regions in the text's order: operations that only tell what stays so (they may come at any time), others each of which is alone when it comes, and a tail behind all of them. No program. -/
import Derived.Test.YtdnljmncdbcgeaaGreatA06
import Derived.Tactics2
import Derived.Lib.Hide
import Derived.Lib.SlicesCompact
import Derived.Shelf.SlSortCmp.NoneTotal
import Derived.Ground.SlsfProg
import Derived.Shelf.SlMaps.Clone
import Derived.Ground.SlmcProg
import Derived.Shelf.SlIter.Nil
import Derived.Ground.GgzProg
import Derived.Test.YtdnljmncdbcgeaaGreatProg

namespace Go.Proofs.YtdnljmncdbcgeaaGreat
open Go.RowKit

section
variable {P : Program} {ops : Array Oper} {md : Region.Mode} {C : World → Prop}

/-- nothing but a value -/
def Qz : Exit → Act → World → Prop := fun _ _ _ => False
theorem letsOut_qz : ¬ LetsOut Qz := fun h => by
  obtain ⟨_, _, h⟩ := h
  exact h
theorem Oper.wp_of_z {o : Oper} {a : Act} {w : World} {K : Act → World → Prop} {Q : Exit → Act → World → Prop} (h : o.wp P a w K Qz) : o.wp P a w K Q := by
  unfold Oper.wp at *
  generalize (execOp a.eval o).run P w = r at *
  cases r with
  | ok n w' =>
    cases n <;> simp only [Oper.upon] at h ⊢
    case enter f args =>
      refine Calls.mono h fun e w'' he => ?_
      cases e with
      | returned u => exact he
      | panicked c => exact absurd he (by simp [Qz])
      | outgrown => exact absurd he letsOut_qz
    all_goals first | exact h | exact absurd h (by simp)
  | halt x w' =>
    cases x <;> simp only [Oper.upon] at h ⊢
    case panic u => exact absurd h (by simp [Qz])
theorem wpOp_of_z {i : Nat} {a : Act} {w : World} {K : Act → World → Prop} {Q : Exit → Act → World → Prop} (h : wpOp P ops Qz i K a w) : wpOp P ops Q i K a w := by
  unfold wpOp at *
  split
  · rename_i h0; simpa [h0] using h
  · rename_i o ho
    simp only [ho] at h
    split
    · rename_i hw
      simp only [hw, if_true] at h
      rcases h with h | ⟨_, h⟩
      · exact .inl (Oper.wp_of_z h)
      · exact absurd h letsOut_qz
    · rename_i hw; simpa [hw] using h

/-- in every world of the class it tells v, and nothing turns -/
def StC (P : Program) (ops : Array Oper) (C : World → Prop) (o : Oper) (v : Value) (a : Act) : Prop :=
  (Region.wanted o (yielded ops a.tmps) = true ∧ ∀ w, C w → (execOp a.eval o).run P w = .ok (.value v) w) ∨ (Region.wanted o (yielded ops a.tmps) = false ∧ v = undef)
theorem StC.of_same {o : Oper} {v : Value} {a a' : Act} (hy : StC P ops C o v a) (he : execOp a'.eval o = execOp a.eval o)
    (hw : Region.wanted o (yielded ops a'.tmps) = Region.wanted o (yielded ops a.tmps)) : StC P ops C o v a' := by
  unfold StC at *
  rw [he, hw]
  exact hy
theorem StC.wpOp {i : Nat} {o : Oper} {v : Value} {a : Act} {w : World} {K : Act → World → Prop} {Q : Exit → Act → World → Prop} (hi : ops[i]? = some o) (hy : StC P ops C o v a) (hw : C w)
    (hK : K (a.put o.dst v) w) : wpOp P ops Q i K a w := by
  unfold Go.wpOp
  simp only [hi]
  rcases hy with ⟨hwt, hv⟩ | ⟨hwt, rfl⟩
  · simp only [hwt, if_true, Oper.wp, hv w hw, Oper.upon]
    exact .inl hK
  · simp only [hwt, Bool.false_eq_true, if_false]
    exact hK

theorem wpOp_putC {j : Nat} {oi oj : Oper} {v : Value} (hj : ops[j]? = some oj) (hap : oi.apart ops oj = true)
    (hsi : ∀ cs b, oi.op ≠ .select cs b) (hsj : ∀ cs b, oj.op ≠ .select cs b) {K : Act → World → Prop} {a : Act} {w : World}
    (hy : StC P ops C oi v a) (h : wpOp P ops Qz j K (a.put oi.dst v) w) :
    wpOp P ops Qz j (fun a' w' => StC P ops C oi v a' ∧ K (a'.put oi.dst v) w') a w := by
  obtain ⟨h1, h2, h3⟩ := Oper.apart_spec hap
  have keep : ∀ (a : Act), StC P ops C oi v a → ∀ u, StC P ops C oi v (a.put oj.dst u) := fun a hy u =>
    hy.of_same (execOp_put oi hsi a oj.dst u h3) (wanted_put oi a oj.dst u h3)
  have keepD : ∀ d, StC P ops C oi v { a with defers := d :: a.defers } := fun d => hy.of_same rfl rfl
  unfold wpOp at *
  simp only [hj] at *
  rw [wanted_put oj a oi.dst v h1] at h
  split
  · rename_i hw
    simp only [hw, if_true] at h
    rcases h with h | ⟨_, hlets⟩
    case inr => exact absurd hlets letsOut_qz
    refine .inl ?_
    unfold Oper.wp at *
    rw [execOp_put oj hsj a oi.dst v h1] at h
    generalize (execOp a.eval oj).run P w = r at *
    cases r with
    | ok n w' =>
      cases n <;> simp only [Oper.upon] at h ⊢
      case value u => exact ⟨keep a hy u, by rw [← Act.put_comm a v u h2]; exact h⟩
      case skip => exact ⟨keep a hy _, by rw [← Act.put_comm a v undef h2]; exact h⟩
      case defer d =>
        refine ⟨keep _ (keepD d) _, ?_⟩
        rw [← Act.put_comm _ v undef h2, ← Act.put_defers]
        exact h
      case enter f args =>
        refine Calls.mono h fun e w'' he => ?_
        cases e with
        | returned u => exact ⟨keep a hy u, by rw [← Act.put_comm a v u h2]; exact he⟩
        | panicked c => exact absurd he (by simp [Qz])
        | outgrown => exact he
      case row row args => exact Rows.mono h fun u w'' he => ⟨keep a hy u, by rw [← Act.put_comm a v u h2]; exact he⟩
    | halt x w' =>
      cases x <;> simp only [Oper.upon] at h ⊢
      case panic u => exact absurd h (by simp [Qz])
  · rename_i hw
    simp only [hw] at h
    exact ⟨keep a hy _, by rw [← Act.put_comm a v undef h2]; exact h⟩

/-- so many operations below m, each of which may come up, then E -/
def wpAnyT (P : Program) (md : Region.Mode) (ops : Array Oper) (C : World → Prop) (m : Nat) (E : Array Bool → Act → World → Prop) : Nat → Array Bool → Act → World → Prop
  | 0, listed, a, w => C w ∧ (∀ j ∈ Region.ready md ops listed, m ≤ j) ∧ E listed a w
  | k + 1, listed, a, w => C w ∧ Region.ready md ops listed ≠ [] ∧ ∀ i ∈ Region.ready md ops listed, i < m ∧ wpOp P ops Qz i (wpAnyT P md ops C m E k (listed.setIfInBounds i true)) a w
theorem wpAnyT.c {m k : Nat} {E : Array Bool → Act → World → Prop} {listed : Array Bool} {a : Act} {w : World} (h : wpAnyT P md ops C m E k listed a w) : C w := by
  cases k with
  | zero => exact h.1
  | succ k => exact h.1

theorem wpAnyT_first {m i : Nat} {oi : Oper} {v : Value} {E : Array Bool → Act → World → Prop} (hi : ops[i]? = some oi) (him : i < m) (hsel : ∀ (j : Nat) (o : Oper) cs b, ops[j]? = some o → o.op ≠ .select cs b) (hT : TailWaitsB md ops m) :
    ∀ (fuel : Nat) (listed : Array Bool) (a : Act) (w : World), HeadInv md ops m listed →
      (∀ j oj, ops[j]? = some oj → j ≠ i → listed.getD j true = false → (∀ e ∈ oj.after, Region.binds md e = true → e.on ≠ i) → oi.apart ops oj = true) →
      i ∈ Region.ready md ops listed → StC P ops C oi v a →
      wpAnyT P md ops C m E fuel (listed.setIfInBounds i true) (a.put oi.dst v) w → wpAnyT P md ops C m E (fuel + 1) listed a w := by
  intro fuel
  induction fuel with
  | zero =>
    intro listed a w inv _ hr hy H
    refine ⟨H.c, fun h => (by rw [h] at hr; cases hr), fun j hj => ?_⟩
    by_cases hji : j = i
    · subst hji; exact ⟨him, hy.wpOp hi H.c H⟩
    · have h1 := H.2.1 j (ready_mono hj hji)
      have h2 := hT listed inv i him (mem_ready.1 hr).1 j hj
      omega
  | succ fuel ih =>
    intro listed a w inv hfree hr hy H
    refine ⟨H.c, fun h => (by rw [h] at hr; cases hr), fun j hj => ?_⟩
    by_cases hji : j = i
    · subst hji; exact ⟨him, hy.wpOp hi H.c H⟩
    · obtain ⟨hjm, h1⟩ := H.2.2 j (ready_mono hj hji)
      obtain ⟨hjun, oj, hoj, hall⟩ := mem_ready.1 hj
      have hnot : ∀ e ∈ oj.after, Region.binds md e = true → e.on ≠ i := fun e he hb heq => by
        have h1 := hall e he hb
        rw [heq, getD_both (mem_ready.1 hr).1] at h1
        cases h1
      have h2 := wpOp_putC hoj (hfree j oj hoj hji hjun hnot) (fun cs b => hsel i oi cs b hi) (fun cs b => hsel j oj cs b hoj) hy h1
      have hfree' : ∀ k ok, ops[k]? = some ok → k ≠ i → (listed.setIfInBounds j true).getD k true = false →
          (∀ e ∈ ok.after, Region.binds md e = true → e.on ≠ i) → oi.apart ops ok = true := fun k ok hk hki hun hno => by
        refine hfree k ok hk hki ?_ hno
        by_cases hjk : j = k
        · subst hjk; exact hjun
        · rw [getD_set_ne true hjk] at hun; exact hun
      refine ⟨hjm, wpOp_mono (fun a' w' h3 => ih (listed.setIfInBounds j true) a' w' (inv.set hj hjm) hfree' (ready_mono hr (Ne.symm hji)) h3.1 ?_) h2⟩
      rw [Array.setIfInBounds_comm _ _ hji]
      exact h3.2

theorem wpAny_of_T {m g : Nat} {E : Array Bool → Act → World → Prop} {Q : Exit → Act → World → Prop} (hE : ∀ listed a w, E listed a w → wpAny P md ops Q g listed a w) :
    ∀ (k : Nat) (listed : Array Bool) (a : Act) (w : World), wpAnyT P md ops C m E k listed a w → wpAny P md ops Q (k + g) listed a w
  | 0, listed, a, w, h => by rw [Nat.zero_add]; exact hE _ _ _ h.2.2
  | k + 1, listed, a, w, h => by
    rw [show k + 1 + g = (k + g) + 1 by omega]
    exact ⟨fun h0 => absurd h0 h.2.1, fun j hj => wpOp_mono (fun a' w' h' => wpAny_of_T hE k _ a' w' h') (wpOp_of_z (h.2.2 j hj).2)⟩

/-- the walk in the text's order: true: it only tells; false: it is alone -/
def wpMix (P : Program) (ops : Array Oper) (C : World → Prop) (E : Act → World → Prop) : List Bool → List Oper → Act → World → Prop
  | [], [], a, w => C w ∧ E a w
  | true :: ks, o :: l, a, w => ∃ v, StC P ops C o v a ∧ wpMix P ops C E ks l (a.put o.dst v) w
  | false :: ks, o :: l, a, w => C w ∧ ((Region.wanted o (yielded ops a.tmps) = true ∧ o.wp P a w (wpMix P ops C E ks l) Qz) ∨ (Region.wanted o (yielded ops a.tmps) = false ∧ wpMix P ops C E ks l (a.put o.dst undef) w))
  | _, _, _, _ => False
/-- nobody looks into it -/
structure MixW (P : Program) (ops : Array Oper) (C : World → Prop) (E : Act → World → Prop) (ks : List Bool) (l : List Oper) (a : Act) (w : World) : Prop where
  go : wpMix P ops C E ks l a w

def mixB (md : Region.Mode) (ops : Array Oper) (g : Nat) : List Bool → Nat → Array Bool → Bool
  | [], k, listed => Region.seqB md ops g k listed
  | true :: ks, k, listed => (Region.ready md ops listed).contains k && Region.free md ops listed k && mixB md ops g ks (k + 1) (listed.setIfInBounds k true)
  | false :: ks, k, listed => decide (Region.ready md ops listed = [k]) && mixB md ops g ks (k + 1) (listed.setIfInBounds k true)

theorem mix_lex {m g : Nat} {Lq : Act → World → Prop} (hsel : ∀ (j : Nat) (o : Oper) cs b, ops[j]? = some o → o.op ≠ .select cs b) (hT : TailWaitsB md ops m) :
    ∀ (ks : List Bool) (l : List Oper) (k : Nat) (listed : Array Bool) (a : Act) (w : World), (∀ j, j < l.length → l[j]? = ops[k + j]?) → k + l.length = m → HeadInv md ops m listed →
    mixB md ops g ks k listed = true → wpMix P ops C Lq ks l a w →
    wpAnyT P md ops C m (fun listed' a' w' => Region.seqB md ops g m listed' = true ∧ Lq a' w') l.length listed a w
  | [], [], k, listed, a, w, _, hk, _, hB, h => by
    have : k = m := by simpa using hk
    subst this
    exact ⟨h.1, seqB_ready hB, hB, h.2⟩
  | true :: ks, o :: l, k, listed, a, w, hl, hk, inv, hB, h => by
    have h0 : ops[k]? = some o := by simpa using (hl 0 (by simp)).symm
    simp only [mixB, Bool.and_eq_true] at hB
    obtain ⟨⟨hr, hf⟩, hB'⟩ := hB
    have hkm : k < m := by simp only [List.length_cons] at hk; omega
    have hr' : k ∈ Region.ready md ops listed := by simpa using hr
    obtain ⟨v, hy, h'⟩ := h
    exact wpAnyT_first h0 hkm hsel hT _ listed a w inv (Region.free_spec h0 hf) hr' hy
      (mix_lex hsel hT ks l (k + 1) _ _ w (fun j hj => by have := hl (j + 1) (by simp; omega); simpa [Nat.add_assoc, Nat.add_comm 1 j] using this) (by simp only [List.length_cons] at hk; omega) (inv.set hr' hkm) hB' h')
  | false :: ks, o :: l, k, listed, a, w, hl, hk, inv, hB, h => by
    have h0 : ops[k]? = some o := by simpa using (hl 0 (by simp)).symm
    simp only [mixB, Bool.and_eq_true, decide_eq_true_eq] at hB
    obtain ⟨hr, hB'⟩ := hB
    have hkm : k < m := by simp only [List.length_cons] at hk; omega
    obtain ⟨hc, h'⟩ := h
    refine ⟨hc, fun h1 => (by rw [hr] at h1; cases h1), fun i hi => ?_⟩
    have hi' := hi
    rw [hr] at hi
    have hik : i = k := by simpa using hi
    subst hik
    refine ⟨hkm, ?_⟩
    have rec_ : ∀ a' w', wpMix P ops C Lq ks l a' w' → wpAnyT P md ops C m (fun listed' a' w' => Region.seqB md ops g m listed' = true ∧ Lq a' w') l.length (listed.setIfInBounds i true) a' w' := fun a' w' h2 =>
      mix_lex hsel hT ks l (i + 1) _ a' w' (fun j hj => by have := hl (j + 1) (by simp; omega); simpa [Nat.add_assoc, Nat.add_comm 1 j] using this) (by simp only [List.length_cons] at hk; omega) (inv.set hi' hkm) hB' h2
    unfold wpOp
    simp only [h0]
    rcases h' with ⟨hw, h'⟩ | ⟨hw, h'⟩
    · simp only [hw, if_true]
      exact .inl (Oper.wp_mono rec_ h')
    · simp only [hw, Bool.false_eq_true, if_false]
      exact rec_ _ _ h'
  | [], _ :: _, _, _, _, _, _, _, _, _, h => h.elim
  | true :: _, [], _, _, _, _, _, _, _, _, h => h.elim
  | false :: _, [], _, _, _, _, _, _, _, _, h => h.elim

/-- the first operations by kinds, the rest one behind the other -/
theorem wp_region_m {id : Nat} {Q : Exit → Act → World → Prop} {a : Act} {w : World} {l : List Oper} (ks : List Bool) (C : World → Prop) (hm : P.follows .mixedOrders = true)
    (hB : (tailOkB l.toArray ks.length && mixB .any l.toArray (l.toArray.size - ks.length) ks 0 (Array.replicate l.toArray.size false)) = true)
    (h : MixW P l.toArray C (fun a' w' => wpList P l.toArray Q (l.drop ks.length) a' w') ks (l.take ks.length) a w.drew) : (Code.region id l.toArray true).wp P Q a w := by
  rw [Bool.and_eq_true] at hB
  obtain ⟨hok, hlex⟩ := hB
  obtain ⟨hsel, hnl, hT⟩ := tailOkB_spec hok
  have htl : (l.take ks.length).length = ks.length := by simp at hnl ⊢; omega
  have hdl : (l.drop ks.length).length = l.toArray.size - ks.length := by simp
  have H := mix_lex (P := P) (md := .any) (m := ks.length) (g := l.toArray.size - ks.length) (Region.noSelect_spec hsel) hT ks (l.take ks.length) 0 _ a w.drew (fun j hj => by
    have hj' : j < ks.length := by rw [htl] at hj; exact hj
    simp [hj']) (by rw [htl]; omega) (inv_new ks.length) hlex h.go
  refine wp_region_any hm ?_
  have := wpAny_of_T (Q := Q) (g := l.toArray.size - ks.length) (fun listed a' w' hL => by
    have := wpAny_of_seq (md := .any) (Q' := Q) (l.drop ks.length) ks.length listed a' w' (fun j => by simp [List.getElem?_drop]) (by rw [hdl]; exact hL.1) hL.2
    rwa [hdl] at this) _ _ _ _ H
  rw [htl, show ks.length + (l.toArray.size - ks.length) = l.toArray.size by omega] at this
  exact this

variable {E : Act → World → Prop} {ks : List Bool} {o : Oper} {rest : List Oper} {a : Act} {w : World}
theorem mx_skip (hw : Region.wanted o (yielded ops a.tmps) = false) (h : ∃ a', a.put o.dst undef = a' ∧ MixW P ops C E ks rest a' w) : MixW P ops C E (true :: ks) (o :: rest) a w := by
  obtain ⟨a', ha, h⟩ := h
  exact ⟨undef, .inr ⟨hw, rfl⟩, by rw [ha]; exact h.go⟩
theorem mx_val (hw : Region.wanted o (yielded ops a.tmps) = true) (h : ∃ v, (∀ w, C w → (execOp a.eval o).run P w = .ok (.value v) w) ∧ ∃ a', a.put o.dst v = a' ∧ MixW P ops C E ks rest a' w) : MixW P ops C E (true :: ks) (o :: rest) a w := by
  obtain ⟨v, hv, a', ha, h⟩ := h
  exact ⟨v, .inl ⟨hw, hv⟩, by rw [ha]; exact h.go⟩
theorem mx_move (x : Operand) (hw : Region.wanted o (yielded ops a.tmps) = true) (hop : o.op = .move x) (h : ∃ v, a.eval x = v ∧ ∃ a', a.put o.dst v = a' ∧ MixW P ops C E ks rest a' w) : MixW P ops C E (true :: ks) (o :: rest) a w := by
  obtain ⟨v, hv, h⟩ := h
  exact mx_val hw ⟨v, fun w _ => by rw [BigFrame.run_move x hop, hv], h⟩
theorem mx_assign (x : Operand) (hw : Region.wanted o (yielded ops a.tmps) = true) (hop : o.op = .assign x) (h : ∃ v, a.eval x = v ∧ ∃ a', a.put o.dst v = a' ∧ MixW P ops C E ks rest a' w) : MixW P ops C E (true :: ks) (o :: rest) a w := by
  obtain ⟨v, hv, h⟩ := h
  exact mx_val hw ⟨v, fun w _ => by rw [BigFrame.run_assign x hop, hv], h⟩
/-- alone: a value, and a world -/
theorem mx_alone (hc : C w) (hw : Region.wanted o (yielded ops a.tmps) = true) (h : ∃ v w', (execOp a.eval o).run P w = .ok (.value v) w' ∧ ∃ a', a.put o.dst v = a' ∧ MixW P ops C E ks rest a' w') : MixW P ops C E (false :: ks) (o :: rest) a w := by
  obtain ⟨v, w', hv, a', ha, h⟩ := h
  refine ⟨hc, .inl ⟨hw, ?_⟩⟩
  unfold Oper.wp
  rw [hv]
  show wpMix P ops C E ks rest (a.put o.dst v) w'
  rw [ha]
  exact h.go
/-- alone: a call -/
theorem mx_call {f : FuncId} {args : Array Value} {R : Ending → World → Prop} (hc : C w) (hw : Region.wanted o (yielded ops a.tmps) = true) (hv : (execOp a.eval o).run P w = .ok (.enter f args) w) (hcall : Calls P f args w R)
    (h : ∀ e w', R e w' → ∃ v, e = .returned v ∧ ∃ a', a.put o.dst v = a' ∧ MixW P ops C E ks rest a' w') : MixW P ops C E (false :: ks) (o :: rest) a w := by
  refine ⟨hc, .inl ⟨hw, ?_⟩⟩
  unfold Oper.wp
  rw [hv]
  refine hcall.mono fun e w' he => ?_
  obtain ⟨v, rfl, a', ha, h⟩ := h e w' he
  show wpMix P ops C E ks rest (a.put o.dst v) w'
  rw [ha]
  exact h.go
theorem mx_idle (hc : C w) (hw : Region.wanted o (yielded ops a.tmps) = false) (h : ∃ a', a.put o.dst undef = a' ∧ MixW P ops C E ks rest a' w) : MixW P ops C E (false :: ks) (o :: rest) a w := by
  obtain ⟨a', ha, h⟩ := h
  exact ⟨hc, .inr ⟨hw, by rw [ha]; exact h.go⟩⟩
theorem mx_end (hc : C w) (h : E a w) : MixW P ops C E [] [] a w := ⟨hc, h⟩
end
end Go.Proofs.YtdnljmncdbcgeaaGreat

/- A map stays where only new memory comes. No program. -/
namespace Go.Proofs.YtdnljmncdbcgeaaGreat
open Go.RowKit Go.Maps

theorem MapAt.below {P : Program} {K : TypeId} {w w' : World} {b : Nat} {L : List (List UInt8 × Value)} (h : MapAt w P K b L) (k : Below w.heap.size w w') : MapAt w' P K b L := h.block (k.block b h.lt)
end Go.Proofs.YtdnljmncdbcgeaaGreat

/- tree.Tree.Set. -/
namespace Go.Proofs.YtdnljmncdbcgeaaGreat
open Go.RowKit Go.Maps

/-- what a call of Set leaves -/
structure TreeTo (w : World) (tb : Nat) (mo : Option Nat) (T : List (List UInt8 × LP)) (w' : World) : Prop where
  at_ : ∃ mo' L', TreeAt w' tb mo' L' ∧ Hid (plainL L' = T) ∧ ∀ m, mo' = some m → mo = some m ∨ w.heap.size ≤ m
  fr : Fr (fun g => g = tb ∨ mo = some g) w w'
theorem TreeTo.of {w w' : World} {tb : Nat} {mo : Option Nat} {L : List (List UInt8 × LV)} (h : TreeAt w tb mo L) (k : Below w.heap.size w w') : TreeTo w tb mo (plainL L) w' :=
  ⟨⟨mo, L, h.below k, rfl, fun _ e => .inl e⟩, Fr.of_below k _⟩
theorem plain_put (L : List (List UInt8 × LV)) (p : List UInt8) (o : LV) : plainL (putR L p o) = putR (plainL L) p o.p := (put_map LV.p L p o).symm
theorem plain_without (L : List (List UInt8 × LV)) (p : List UInt8) : plainL (withoutR L p) = withoutR (plainL L) p := (without_map LV.p L p).symm
theorem mapL_put (L : List (List UInt8 × LV)) (p : List UInt8) (o : LV) : mapL (putR L p o) = putR (mapL L) p o.v := (put_map LV.v L p o).symm
theorem mapL_without (L : List (List UInt8 × LV)) (p : List UInt8) : mapL (withoutR L p) = withoutR (mapL L) p := (without_map LV.v L p).symm
theorem map_eq_nil (w : World) (m : Option Nat) : (binOp .eql 86 (.map m) (.map none)).run Tryz.prog w = .ok (.bool m.isNone) w := run_eql_map_nil w _ _ _ m Tryz.underlying86
/-- bytes do not stand where a map's pointer stands -/
theorem By.not_map {w : World} {Z : Nat → Prop} {A : Option Addr} {l : List UInt8} {tb : Nat} {t : TypeId} {mo : Option Nat} (h : By w Z A l) (hb : Blk w tb t #[.map mo]) : By w (fun b => b ≠ tb) A l := by
  refine ⟨h.1, fun hn => ?_⟩
  obtain ⟨b, off, e, hz, hlt, hc⟩ := h.2 hn
  refine ⟨b, off, e, fun eb => ?_, hlt, hc⟩
  subst eb
  rcases l with _ | ⟨x, l⟩
  · simp at hn
  · have h1 := hc 0 (bv x) rfl
    rw [hb.cell] at h1
    rcases Nat.eq_zero_or_pos (off + 0) with h0 | h0
    · rw [h0] at h1; simp [bv] at h1
    · rw [Array.getElem?_eq_none (by simp; omega)] at h1; cases h1
/-- the map written -/
theorem TreeAt.stored {w w' : World} {tb mb : Nat} {L : List (List UInt8 × LV)} {p : List UInt8} {o : LV} (hb : Blk w tb 88 #[.map (some mb)]) (hm : MapAt w' Tryz.prog 9 mb (putR (mapL L) p o.v)) (hg : w.grownBy w' (some mb)) (hne : mb ≠ tb)
    {K : List (List UInt8 × Value)} (hm0 : MapAt w Tryz.prog 9 mb K) (hok : ∀ x ∈ L, OwB w 0 (.slice x.2.x.A x.2.x.l.length x.2.x.c) x.2.x.l) (ho : OwB w 0 (.slice o.x.A o.x.l.length o.x.c) o.x.l) (hpl : TreeOk (plainL (putR L p o))) : TreeAt w' tb (some mb) (putR L p o) := by
  have f : Fr (fun g => g = mb) w w' := Fr.of_grown hg (fun k _ e => by injection e with e; exact e.symm)
  refine ⟨hb.grown hg (by simpa using hne), .inr ⟨mb, rfl, by rw [mapL_put]; exact hm⟩, fun x hx => ?_, hpl⟩
  unfold putR at hx
  rcases mem_ins.1 hx with rfl | hx
  · exact own_fr ho f (fun g e1 e2 => TreeAt.own_map hm0 ho (by rw [e1, e2]))
  · exact own_fr (hok x (List.mem_filter.1 hx).1) f (fun g e1 e2 => TreeAt.own_map hm0 (hok x (List.mem_filter.1 hx).1) (by rw [e1, e2]))
theorem TreeAt.dropped {w w' : World} {tb mb : Nat} {L : List (List UInt8 × LV)} {p : List UInt8} (h : TreeAt w tb (some mb) L) (hm : MapAt w' Tryz.prog 9 mb (withoutR (mapL L) p)) (hg : w.grownBy w' (some mb)) (hpl : TreeOk (plainL (withoutR L p))) : TreeAt w' tb (some mb) (withoutR L p) := by
  have f : Fr (fun g => g = mb) w w' := Fr.of_grown hg (fun k _ e => by injection e with e; exact e.symm)
  refine ⟨h.blk.grown hg (fun e => h.ne e), .inr ⟨mb, rfl, by rw [mapL_without]; exact hm⟩, fun x hx => ?_, hpl⟩
  exact own_fr (h.own x (List.mem_filter.1 hx).1) f (fun g e1 e2 => h.ownT (h.own x (List.mem_filter.1 hx).1) (by decide) g e1 (.inr (by rw [e2])))


set_option maxRecDepth 100000 in
set_option maxHeartbeats 2000000 in
theorem treeSet_any (hS : SortsT) (tb : Nat) (mo : Option Nat) (L : List (List UInt8 × LV)) (p : List UInt8) (k : Int) (A : Option Addr) (c : Nat) (l : List UInt8) (Z : Nat → Prop) (w : World) (h : TreeAt w tb mo L) (hy : By w Z A l) (hp : p.length ≤ 1048576) (hn : l.length ≤ 140737488355328) :
    Calls Tryz.prog 40 #[.pointer (some ⟨tb, 0, none⟩), .string ⟨⟨p⟩⟩, .agg #[.int .i64 k, .slice A l.length c]] w fun e w' => e = .returned (.int .i64 (mayS (plainL L) p (k, l))) ∧ TreeTo w tb mo (setS (plainL L) p (k, l)) w' := by
  have HPL := Lib.hid (h.plain.set p (k, l))
  obtain ⟨M, hM⟩ : ∃ M, M = mayS (plainL L) p (k, l) := ⟨_, rfl⟩
  obtain ⟨T, hTT⟩ : ∃ T, T = setS (plainL L) p (k, l) := ⟨_, rfl⟩
  rw [← hM, ← hTT]
  rw [← hTT] at HPL
  have HM := Lib.hid hM
  have HTT : Hid (T = if M = 0 then doS (plainL L) p (k, l) else plainL L) := by show _ = _; rw [hTT, hM]; rfl
  clear hTT
  have HT := Lib.hid h
  have HY := Lib.hid hy
  have hb0 : Below w.heap.size w (w.alloc (.cells #[.int .i64 k, .slice A l.length c] 25)) := (by repeat (first | exact Below.refl _ _ | refine Below.alloc ?_ (by simp) _ | refine Below.setCell ?_ (by simp) _ | refine Below.drew ?_))
  have x0 := Blk.new w 25 #[.int .i64 k, .slice A l.length c]
  have q0 : (w.alloc (.cells #[.int .i64 k, .slice A l.length c] 25)).cell? ⟨w.heap.size, 0, none⟩ = some (.int .i64 k) := x0.cell 0
  have q1 : (w.alloc (.cells #[.int .i64 k, .slice A l.length c] 25)).cell? ⟨w.heap.size, 1, none⟩ = some (.slice A l.length c) := x0.cell 1
  have hpw : goodB p = false → Hid (M = 23) := fun e => by show _ = _; rw [HM.out]; unfold mayS; rw [if_pos e]
  clear h hy hM
  go_enter Tryz.func40, Tryz.ntmps40
  go_wp2_with fail
  clear q0 q1
  refine (treemay_any hS tb mo L p k A c l _ (HT.out.below hb0) hp hn).mono ?_
  rintro e w1 ⟨rfl, hb1⟩
  rw [← HM.out]
  have hw1 := hb0.trans (hb1.mono hb0.size)
  have x1 := x0.below hb1
  clear x0 hb0 hb1
  by_cases hM0 : M = 0
  · have hMb : (M != 0) = false := by simp [hM0]
    have hk : k = 0 ∨ k = 1 ∨ k = 2 := by
      have e := HM.out
      rw [hM0] at e
      unfold mayS at e
      split at e
      · simp at e
      · split at e
        · rename_i h2; exact absurd e.symm h2
        · rename_i h2
          exact checkN_kind (by simpa using h2)
    have hg : goodB p = true := by
      rcases hgg : goodB p with _ | _
      · have := (hpw hgg).out; omega
      · rfl
    have hp96 := goodB_len hg
    have HT2 : Hid (T = doS (plainL L) p (k, l)) := by show _ = _; rw [HTT.out, if_pos hM0]
    clear HTT HM hpw hg
    have q0 : w1.cell? ⟨w.heap.size, 0, none⟩ = some (.int .i64 k) := x1.cell 0
    have h1 := HT.out.below hw1
    have c0 := h1.c0
    by_cases hk0 : k = 0
    · have HT3 : Hid (T = withoutR (plainL L) p) := by show _ = _; rw [HT2.out]; unfold doS; rw [if_pos hk0]
      clear HT2 hk
      subst hk0
      rcases h1.map with ⟨rfl, rfl⟩ | ⟨mb, rfl, hm⟩
      · have hdr := fun ty => Maps.drop_nil (w := w1) str_keyed Tryz.underlying86 (Go.WideMaps.keyOf_string_mk Tryz.underlying9 (s := ⟨⟨p⟩⟩) (by show p.length ≤ _; simp only [maxLen]; omega)) ty
        subst hM0
        clear h1
        go_wp2_with fail
        go_ret
        refine ⟨rfl, ?_⟩
        rw [HT3.out]
        exact TreeTo.of HT.out hw1
      · obtain ⟨w2, hrun, hm2, hg2, _⟩ := hm.drop Tryz.underlying9 Tryz.underlying86 p (by simp only [maxLen]; omega) 0
        have HD := Lib.hid (h1.dropped hm2 hg2 (by rw [plain_without, ← HT3.out]; exact HPL.out))
        subst hM0
        clear h1 hm hm2
        go_wp2_with fail
        go_ret
        refine ⟨rfl, ⟨some mb, withoutR L p, HD.out, by show _ = _; rw [HT3.out, plain_without], fun m e => .inl e⟩, ?_⟩
        exact (Fr.of_below hw1 _).trans (Fr.of_grown hg2 (S := fun g => some mb = some g) (fun k _ e => e)) (fun x _ e => .inr e)
    · have HT3 : Hid (T = putR (plainL L) p (k, l)) := by show _ = _; rw [HT2.out]; unfold doS; rw [if_neg hk0]
      have hk0b : (k == 0) = false := by simpa using hk0
      clear HT2 hk hk0
      subst hM0
      rcases h1.map with ⟨rfl, rfl⟩ | ⟨mb, rfl, hm⟩
      · have hmm := @run_makeMap Tryz.prog
        have hmn := fun W m => map_eq_nil W m
        have f0 := h1.f0
        have hsz := hw1.size
        have htl := h1.blk.lt
        have htw := HT.out.blk.lt
        have b3 : Blk ((w1.setCell ⟨tb, 0, none⟩ (.map (some w1.heap.size))).alloc (.map #[] 0)) tb 88 #[.map (some w1.heap.size)] := by simpa using (h1.blk.set_ 0 (.map (some w1.heap.size))).alloc (.map #[] 0)
        have fS : Fr (fun g => g = tb) w1 ((w1.setCell ⟨tb, 0, none⟩ (.map (some w1.heap.size))).alloc (.map #[] 0)) := ((Fr.refl (fun g => g = tb) w1).setAt tb 0 rfl _).alloc _
        have hm3 : MapAt ((w1.setCell ⟨tb, 0, none⟩ (.map (some w1.heap.size))).alloc (.map #[] 0)) Tryz.prog 9 w1.heap.size (mapL []) := by have := MapAt.made (w1.setCell ⟨tb, 0, none⟩ (.map (some w1.heap.size))) Tryz.prog 9; rwa [show (w1.setCell ⟨tb, 0, none⟩ (.map (some w1.heap.size))).heap.size = w1.heap.size by simp [World.setCell]] at this
        have hx3 := x1.fr fS (by omega)
        have HY3 := Lib.hid (show By ((w1.setCell ⟨tb, 0, none⟩ (.map (some w1.heap.size))).alloc (.map #[] 0)) (fun _ => True) A l from (((HY.out.below hw1).not_map h1.blk).fr fS (fun b _ hz e => hz e)).mono (fun _ _ _ => trivial))
        have hfr3 := (Fr.of_below hw1 (fun g => g = tb ∨ (none : Option Nat) = some g)).trans fS (fun x _ e => .inl e)
        have hne3 : w1.heap.size ≠ tb := by omega
        have hbig : w.heap.size ≤ w1.heap.size := hsz
        have hok3 : ∀ x ∈ ([] : List (List UInt8 × LV)), OwB ((w1.setCell ⟨tb, 0, none⟩ (.map (some w1.heap.size))).alloc (.map #[] 0)) 0 (.slice x.2.x.A x.2.x.l.length x.2.x.c) x.2.x.l := by simp
        go_wp2_with fail
        clear q0 x1 f0 fS hmm c0
        generalize (w1.setCell ⟨tb, 0, none⟩ (.map (some w1.heap.size))).alloc (.map #[] 0) = w3 at *
        generalize hmbe : w1.heap.size = mb at *
        clear hmbe
        refine wp_region_m [true, true, true, true, true, true, false] (fun W => Below w3.heap.size w3 W) (by kernel_rfl) (by kernel_rfl) ?_
        simp only [List.length_cons, List.length_nil, Nat.zero_add, Nat.reduceAdd, List.take_succ_cons, List.take_zero, List.drop_succ_cons, List.drop_zero]
        refine mx_move _ (by kernel_rfl) rfl ⟨_, (by ((try simp [go_sem]); (try rfl); done)), _, (by (simp only [Act.put, List.setIfInBounds_toArray, List.set_cons_zero, List.set_cons_succ]; rfl)), ?_⟩
        refine mx_val (by kernel_rfl) ⟨_, (by (intro w' hC; clear hC; (try go_simp); (try with_reducible rfl); done)), _, (by (simp only [Act.put, List.setIfInBounds_toArray, List.set_cons_zero, List.set_cons_succ]; rfl)), ?_⟩
        refine mx_val (by kernel_rfl) ⟨_, (by (intro w' hC; clear hC; (try go_simp); (try with_reducible rfl); done)), _, (by (simp only [Act.put, List.setIfInBounds_toArray, List.set_cons_zero, List.set_cons_succ]; rfl)), ?_⟩
        refine mx_val (by kernel_rfl) ⟨_, (by (intro w' hC; (have q := (b3.below hC).cell 0; simp at q); clear hC; (try go_simp); (try with_reducible rfl); done)), _, (by (simp only [Act.put, List.setIfInBounds_toArray, List.set_cons_zero, List.set_cons_succ]; rfl)), ?_⟩
        refine mx_move _ (by kernel_rfl) rfl ⟨_, (by ((try simp [go_sem]); (try rfl); done)), _, (by (simp only [Act.put, List.setIfInBounds_toArray, List.set_cons_zero, List.set_cons_succ]; rfl)), ?_⟩
        refine mx_val (by kernel_rfl) ⟨_, (by (intro w' hC; (have q0 := (hx3.below hC).cell 0; have q1 := (hx3.below hC).cell 1; simp at q0 q1); clear hC; (try go_simp); (try with_reducible rfl); done)), _, (by (simp only [Act.put, List.setIfInBounds_toArray, List.set_cons_zero, List.set_cons_succ]; rfl)), ?_⟩
        refine mx_call ((Below.refl _ _).drew) (by kernel_rfl) ?_ (leafClone_any k A c l _ w3.drew (HY3.out.drew) hn) ?_
        · (go_simp; done)
        rintro e w4 ⟨A4, c4, l4, rfl, hl4, ho4, hb4⟩
        have hlow4 : Below w3.heap.size w3 w4 := (Below.refl _ _).drew.trans (hb4.mono (Nat.le_refl _))
        refine ⟨_, rfl, _, (by (simp only [Act.put, List.setIfInBounds_toArray, List.set_cons_zero, List.set_cons_succ]; rfl)), ?_⟩
        refine mx_end hlow4 ?_
        have b4 := b3.below hlow4
        have hml := HPL.out.len
        rw [HT3.out, show putR (plainL ([] : List (List UInt8 × LV))) p (k, l) = plainL (putR ([] : List (List UInt8 × LV)) p ⟨k, ⟨A4, c4, l4⟩⟩) by rw [plain_put]; show _ = putR (plainL ([] : List (List UInt8 × LV))) p (k, l4); rw [hl4.out]] at HPL
        have hlen3 : (mapL ([] : List (List UInt8 × LV))).length < maxLen := by
          have h5 := (HT.out.plain).len
          simp only [mapL, plainL, List.length_map] at h5 ⊢
          simp only [maxLen]
          omega
        obtain ⟨w5, hrun5, hm5, hg5, _⟩ := (hm3.below hlow4).store Tryz.underlying9 Tryz.underlying86 p (by simp only [maxLen]; omega) (.agg #[.int .i64 k, .slice A4 l4.length c4]) hlen3
        have hlt3 := hm3.lt
        have htb3 := b3.lt
        obtain ⟨A4', c4', e4, hlc4, hcm4, hA4⟩ := ho4.form
        obtain ⟨rfl, rfl⟩ : A4 = A4' ∧ c4 = c4' := by simpa using e4
        have hoo : OwB w4 0 (.slice A4 l4.length c4) l4 := own_base ho4 (fun _ _ => Nat.zero_le _)
        have HD := Lib.hid (TreeAt.stored (o := ⟨k, ⟨A4, c4, l4⟩⟩) b4 hm5 hg5 hne3 (hm3.below hlow4) (fun x hx => OwB.below (hok3 x hx) hlow4) hoo HPL.out)
        have HPP : Hid (plainL (putR ([] : List (List UInt8 × LV)) p ⟨k, ⟨A4, c4, l4⟩⟩) = T) := by show _ = _; rw [plain_put, HT3.out]; show putR (plainL ([] : List (List UInt8 × LV))) p (k, l4) = _; rw [hl4.out]
        have hfr5 := (hfr3.then_below hlow4)
        clear b4 hm5 hm3 hok3 hoo ho4 b3 hx3 HY3
        go_wp2_with fail
        go_ret
        refine ⟨rfl, ⟨some mb, _, HD.out, HPP, fun m e => by injection e with e; subst e; exact .inr hbig⟩, ?_⟩
        exact hfr5.trans (Fr.of_grown hg5 (S := fun g => some mb = some g) (fun k _ e => e)) (fun x hx e => by injection e with e; omega)
      · have b3 := h1.blk
        have hmn := fun W m => map_eq_nil W m
        have hne3 : mb ≠ tb := fun e => h1.ne (by rw [e])
        have hok3 := h1.own
        have hm3 := hm
        have hfr3 := Fr.of_below hw1 (fun g => g = tb ∨ (some mb : Option Nat) = some g)
        have hx3 := x1
        have HY3 := Lib.hid (show By w1 (fun _ => True) A l from (HY.out.below hw1).mono (fun _ _ _ => trivial))
        go_wp2_with fail
        clear q0 x1 c0 hm
        obtain ⟨w3, rfl⟩ : ∃ x : World, x = w1 := ⟨_, rfl⟩
        refine wp_region_m [true, true, true, true, true, true, false] (fun W => Below w3.heap.size w3 W) (by kernel_rfl) (by kernel_rfl) ?_
        simp only [List.length_cons, List.length_nil, Nat.zero_add, Nat.reduceAdd, List.take_succ_cons, List.take_zero, List.drop_succ_cons, List.drop_zero]
        refine mx_move _ (by kernel_rfl) rfl ⟨_, (by ((try simp [go_sem]); (try rfl); done)), _, (by (simp only [Act.put, List.setIfInBounds_toArray, List.set_cons_zero, List.set_cons_succ]; rfl)), ?_⟩
        refine mx_val (by kernel_rfl) ⟨_, (by (intro w' hC; clear hC; (try go_simp); (try with_reducible rfl); done)), _, (by (simp only [Act.put, List.setIfInBounds_toArray, List.set_cons_zero, List.set_cons_succ]; rfl)), ?_⟩
        refine mx_val (by kernel_rfl) ⟨_, (by (intro w' hC; clear hC; (try go_simp); (try with_reducible rfl); done)), _, (by (simp only [Act.put, List.setIfInBounds_toArray, List.set_cons_zero, List.set_cons_succ]; rfl)), ?_⟩
        refine mx_val (by kernel_rfl) ⟨_, (by (intro w' hC; (have q := (b3.below hC).cell 0; simp at q); clear hC; (try go_simp); (try with_reducible rfl); done)), _, (by (simp only [Act.put, List.setIfInBounds_toArray, List.set_cons_zero, List.set_cons_succ]; rfl)), ?_⟩
        refine mx_move _ (by kernel_rfl) rfl ⟨_, (by ((try simp [go_sem]); (try rfl); done)), _, (by (simp only [Act.put, List.setIfInBounds_toArray, List.set_cons_zero, List.set_cons_succ]; rfl)), ?_⟩
        refine mx_val (by kernel_rfl) ⟨_, (by (intro w' hC; (have q0 := (hx3.below hC).cell 0; have q1 := (hx3.below hC).cell 1; simp at q0 q1); clear hC; (try go_simp); (try with_reducible rfl); done)), _, (by (simp only [Act.put, List.setIfInBounds_toArray, List.set_cons_zero, List.set_cons_succ]; rfl)), ?_⟩
        refine mx_call ((Below.refl _ _).drew) (by kernel_rfl) ?_ (leafClone_any k A c l _ w3.drew (HY3.out.drew) hn) ?_
        · (go_simp; done)
        rintro e w4 ⟨A4, c4, l4, rfl, hl4, ho4, hb4⟩
        have hlow4 : Below w3.heap.size w3 w4 := (Below.refl _ _).drew.trans (hb4.mono (Nat.le_refl _))
        refine ⟨_, rfl, _, (by (simp only [Act.put, List.setIfInBounds_toArray, List.set_cons_zero, List.set_cons_succ]; rfl)), ?_⟩
        refine mx_end hlow4 ?_
        have b4 := b3.below hlow4
        have hml := HPL.out.len
        rw [HT3.out, show putR (plainL L) p (k, l) = plainL (putR L p ⟨k, ⟨A4, c4, l4⟩⟩) by rw [plain_put]; show _ = putR (plainL L) p (k, l4); rw [hl4.out]] at HPL
        have hlen3 : (mapL L).length < maxLen := by
          have h5 := (HT.out.plain).len
          simp only [mapL, plainL, List.length_map] at h5 ⊢
          simp only [maxLen]
          omega
        obtain ⟨w5, hrun5, hm5, hg5, _⟩ := (hm3.below hlow4).store Tryz.underlying9 Tryz.underlying86 p (by simp only [maxLen]; omega) (.agg #[.int .i64 k, .slice A4 l4.length c4]) hlen3
        have hlt3 := hm3.lt
        have htb3 := b3.lt
        obtain ⟨A4', c4', e4, hlc4, hcm4, hA4⟩ := ho4.form
        obtain ⟨rfl, rfl⟩ : A4 = A4' ∧ c4 = c4' := by simpa using e4
        have hoo : OwB w4 0 (.slice A4 l4.length c4) l4 := own_base ho4 (fun _ _ => Nat.zero_le _)
        have HD := Lib.hid (TreeAt.stored (o := ⟨k, ⟨A4, c4, l4⟩⟩) b4 hm5 hg5 hne3 (hm3.below hlow4) (fun x hx => OwB.below (hok3 x hx) hlow4) hoo HPL.out)
        have HPP : Hid (plainL (putR L p ⟨k, ⟨A4, c4, l4⟩⟩) = T) := by show _ = _; rw [plain_put, HT3.out]; show putR (plainL L) p (k, l4) = _; rw [hl4.out]
        have hfr5 := (hfr3.then_below hlow4)
        clear b4 hm5 hm3 hok3 hoo ho4 b3 hx3 HY3
        go_wp2_with fail
        go_ret
        refine ⟨rfl, ⟨some mb, _, HD.out, HPP, fun m e => by injection e with e; subst e; exact .inl rfl⟩, ?_⟩
        exact hfr5.trans (Fr.of_grown hg5 (S := fun g => some mb = some g) (fun k _ e => e)) (fun x hx e => by exact .inr e)
  · have hMb : (M != 0) = true := by simpa using hM0
    obtain rfl : T = plainL L := by rw [HTT.out, if_neg hM0]
    clear hM0 HM hpw
    go_wp2_with fail
    go_ret
    exact ⟨rfl, TreeTo.of HT.out hw1⟩

end Go.Proofs.YtdnljmncdbcgeaaGreat

/- tenderref08: Same. -/
namespace Go.Proofs.YtdnljmncdbcgeaaGreat
open Go.RowKit

theorem plain_snoc (L : List (List UInt8 × LV)) (i : Nat) (hi : i < L.length) : plainL (L.take (i + 1)) = plainL (L.take i) ++ [(L[i].1, L[i].2.p)] := by
  unfold plainL
  rw [List.take_succ_eq_append_getElem hi, List.map_append]
  rfl
theorem plain_get (L : List (List UInt8 × LV)) (i : Nat) (hi : i < L.length) : (plainL L)[i]? = some (L[i].1, L[i].2.p) := by
  unfold plainL
  rw [List.getElem?_map, List.getElem?_eq_getElem hi]
  rfl
theorem plain_len (L : List (List UInt8 × LV)) : (plainL L).length = L.length := by simp [plainL]

end Go.Proofs.YtdnljmncdbcgeaaGreat

/- A region in the text's order whose operations each yield ONE value and at most make memory (ClassF's steps without a drawn order). No program. -/
namespace Go.Proofs.YtdnljmncdbcgeaaGreat
open Go.RowKit

section
variable {P : Program} {ops : Array Oper} {W : World} {Q : Exit → Act → World → Prop} {Lq : Act → Prop}
theorem wpList_walk : ∀ (l : List Oper) (a : Act) (w : World), WalkB P ops W Lq l a → Below W.heap.size W w → (∀ a' w', Lq a' → Below W.heap.size W w' → Q .normal a' w') → wpList P ops Q l a w
  | [], a, w, h, hw, hQ => by
    cases h with
    | nil h => exact hQ _ _ h hw
  | o :: l, a, w, h, hw, hQ => by
    cases h with
    | cons hy hd =>
      rcases hy with ⟨hwt, hv⟩ | ⟨hwt, rfl⟩
      · simp only [wpList, hwt, if_true]
        refine .inl ?_
        unfold Oper.wp
        rcases hv w hw with e | ⟨f, args, e, hc⟩
        · rw [e]
          exact wpList_walk l _ w hd hw hQ
        · rw [e]
          exact hc.mono fun e w' ⟨he, hb⟩ => by
            subst he
            exact wpList_walk l _ w' hd (hw.trans (hb.mono hw.size)) hQ
      · exact wpList_skip hwt (wpList_walk l _ w hd hw hQ)
theorem wpList_seq {l : List Oper} {a : Act} {w : World} (h : WalkB P ops w (fun a' => ∀ w', Below w.heap.size w w' → Q .normal a' w') l a) : wpList P ops Q l a w :=
  wpList_walk l a w h (Below.refl _ _) (fun _ _ h hb => h _ hb)
end
end Go.Proofs.YtdnljmncdbcgeaaGreat

/- tenderref08: Diff. -/
namespace Go.Proofs.YtdnljmncdbcgeaaGreat
open Go.RowKit

def dirV : LV := ⟨2, ⟨none, 0, []⟩⟩
/-- all of some paths, in order, each once -/
def unionR (ps : List (List UInt8)) : List (List UInt8 × LV) := ps.foldl (fun T p => putR T p dirV) []
theorem union_snoc (ps : List (List UInt8)) (p : List UInt8) : unionR (ps ++ [p]) = putR (unionR ps) p dirV := by simp [unionR]
theorem put_len_le {α : Type} (L : List (List UInt8 × α)) (p : List UInt8) (v : α) : (putR L p v).length ≤ L.length + 1 := by
  unfold putR
  rw [ins_len]
  have := without_len_le L p
  omega
theorem union_len (ps : List (List UInt8)) (n : Nat) (h : ps.length = n) : (unionR ps).length ≤ n + 0 := by
  subst h
  have : ∀ (qs : List (List UInt8)) (T : List (List UInt8 × LV)), (qs.foldl (fun T p => putR T p dirV) T).length ≤ T.length + qs.length := by
    intro qs
    induction qs with
    | nil => intro T; simp
    | cons q qs ih =>
      intro T
      have := ih (putR T q dirV)
      have h2 := put_len_le T q dirV
      simp only [List.foldl_cons, List.length_cons]
      omega
  have := this ps []
  simpa [unionR] using this
/-- what stands there, or nothing -/
def at0 (T : List (List UInt8 × LP)) (p : List UInt8) : LP := (getR T p).getD (0, [])
def diffB (S T : List (List UInt8 × LP)) (p : List UInt8) : Bool := !(at0 S p == at0 T p)
/-- the paths at which they are not the same -/
def diffS (S T : List (List UInt8 × LP)) : List (List UInt8) := (keysR (unionR (keysR S ++ keysR T))).filter (diffB S T)
theorem leafO_by {w : World} {A : Option Addr} {L : List (List UInt8 × LV)} (h : Its w A L) (p : List UInt8) : ∃ (k : Int) (A' : Option Addr) (c : Nat) (l : List UInt8), leafO (getR L p) = .agg #[.int .i64 k, .slice A' l.length c] ∧ By w (fun _ => True) A' l ∧ Hid (at0 (plainL L) p = (k, l)) := by
  unfold at0
  rw [get_plain]
  rcases hg : getR L p with _ | ⟨k, A', c, l⟩
  · exact ⟨0, none, 0, [], rfl, Rd.nil, rfl⟩
  · exact ⟨k, A', c, l, rfl, (h.ok _ (getR_mem hg)).1, rfl⟩
theorem keys_take {α : Type} (L : List (List UInt8 × α)) (i : Nat) (hi : i < L.length) : keysR (L.take (i + 1)) = keysR (L.take i) ++ [L[i].1] := by
  unfold keysR
  rw [List.take_succ_eq_append_getElem hi, List.map_append]
  rfl
theorem Its.put1 {w w' : World} {A A' : Option Addr} {c' : Nat} {base : Nat} {L : List (List UInt8 × LV)} {p : List UInt8} (h : Its w A L) (ho : OwI w' base A' c' (putR L p dirV)) (hp : p.length ≤ 1048576) (hn : L.length ≤ 1000000) (k : Below w.heap.size w w') : Its w' A' (putR L p dirV) := by
  have := h.putI (v := dirV) (p := p) (base := base) (A' := A') (c' := c') (w' := w') ho ⟨Rd.nil, by simp [dirV], by simp [dirV]⟩ hp (by simp [dirV]) hn k
  exact this

end Go.Proofs.YtdnljmncdbcgeaaGreat

/- tree.Tree: Items, Size. -/
namespace Go.Proofs.YtdnljmncdbcgeaaGreat
open Go.RowKit

/-- rows of unlike things lie apart -/
theorem own_apart {w : World} {base base' : Nat} {e e' : TypeId} {s s' n n' : Nat} {v v' : Value} {xs xs' : List Value} (h : w.ownsRow base e s v n xs) (h' : w.ownsRow base' e' s' v' n' xs') (hne : e ≠ e') : ∀ g, v.ownBlock = some g → v'.ownBlock ≠ some g := by
  rcases h.2 with ⟨rfl, _⟩ | ⟨g', cap, cur, rfl, _, hh, _⟩
  · simp [Value.ownBlock]
  · intro g he
    have e1 : g' = g := by simpa [Value.ownBlock] using he
    subst e1
    have hb : Blk w g' e _ := hh
    exact Blk.own_ne hb h' (fun e => hne e.symm)
/-- items, each of the call's own, bytes and all -/
structure ItsOwn (w : World) (base : Nat) (A : Option Addr) (c : Nat) (M : List (List UInt8 × LV)) : Prop where
  row : OwI w base A c M
  byt : ∀ x ∈ M, OwB w base (.slice x.2.x.A x.2.x.l.length x.2.x.c) x.2.x.l
theorem ItsOwn.below {w w' : World} {base : Nat} {A : Option Addr} {c : Nat} {M : List (List UInt8 × LV)} (h : ItsOwn w base A c M) (k : Below w.heap.size w w') : ItsOwn w' base A c M := ⟨h.row.below k, fun x hx => own_below (h.byt x hx) k⟩
theorem ItsOwn.base {w : World} {base base' : Nat} {A : Option Addr} {c : Nat} {M : List (List UInt8 × LV)} (h : ItsOwn w base A c M) (hb : base' ≤ base) : ItsOwn w base' A c M :=
  ⟨own_base h.row (fun g hg => Nat.le_trans hb (h.row.lt g hg).1), fun x hx => own_base (h.byt x hx) (fun g hg => Nat.le_trans hb ((h.byt x hx).lt g hg).1)⟩
theorem ItsOwn.its {w : World} {base : Nat} {A : Option Addr} {c : Nat} {M : List (List UInt8 × LV)} (h : ItsOwn w base A c M) (hl : M.length ≤ 1099511627776) (ht : ∀ x ∈ M, x.1.length ≤ 1048576 ∧ x.2.x.l.length ≤ 140737488355328) : Its w A M :=
  h.row.its (fun x hx => by
    obtain ⟨A', c', e, h1, h2, _⟩ := own_form (h.byt x hx)
    injection e with e1 e2 e3
    subst e1 e3
    exact ⟨(h.byt x hx).rd.mono (fun _ _ _ => trivial), h1, h2⟩) hl ht
theorem ItsOwn.push {w w' : World} {base : Nat} {A A' : Option Addr} {c c' : Nat} {M : List (List UInt8 × LV)} {y : List UInt8 × LV} (h : ItsOwn w base A c M) (hy : OwB w base (.slice y.2.x.A y.2.x.l.length y.2.x.c) y.2.x.l) (hr : OwI w' base A' c' (M ++ [y])) (hb : Below base w w')
    (hk : ∀ k, k < w.heap.size → (Value.slice A M.length c).ownBlock ≠ some k → w'.heap[k]? = w.heap[k]?) : ItsOwn w' base A' c' (M ++ [y]) := by
  have hf : Fr (fun k => (Value.slice A M.length c).ownBlock = some k) w w' := ⟨hb.os, hb.tape, hb.output, hb.size, hk⟩
  refine ⟨hr, fun x hx => ?_⟩
  rcases List.mem_append.1 hx with hx | hx
  · exact own_fr (h.byt x hx) hf (own_apart (h.byt x hx) h.row (by decide))
  · rw [List.mem_singleton.1 hx]
    exact own_fr hy hf (own_apart hy h.row (by decide))
theorem plain_app (L M : List (List UInt8 × LV)) : plainL (L ++ M) = plainL L ++ plainL M := by simp [plainL]

theorem txt_at {w : World} {base : Nat} {A : Option Addr} {c : Nat} {l : List (List UInt8)} (h : w.ownsRow base 9 1 (.slice A l.length c) l.length (l.map stv)) {i : Nat} (hi : i < l.length) :
    ∃ b off, A = some ⟨b, off, none⟩ ∧ b < w.heap.size ∧ w.cell? ⟨b, off + i, none⟩ = some (stv l[i]) := by
  have hr : Rd w (fun _ => True) 1 A l.length (l.map stv) := Rd.of_own h (fun _ _ _ => trivial)
  obtain ⟨b, off, hA, _, hb, hc⟩ := hr.2 (by omega)
  exact ⟨b, off, hA, hb, hc i _ (by rw [List.getElem?_map, List.getElem?_eq_getElem hi]; rfl)⟩
/-- how many bytes -/
def sizeR (T : List (List UInt8 × LP)) : Nat := (T.map fun x => x.2.2.length).sum
theorem size_app (S T : List (List UInt8 × LP)) : sizeR (S ++ T) = sizeR S + sizeR T := by simp [sizeR]
theorem size_le (T : List (List UInt8 × LP)) (h : ∀ x ∈ T, x.2.2.length ≤ 4096) : sizeR T ≤ T.length * 4096 := by
  induction T with
  | nil => simp [sizeR]
  | cons x T ih =>
    have h1 := h x (by simp)
    have h2 := ih (fun y hy => h y (by simp [hy]))
    simp only [sizeR, List.map_cons, List.sum_cons, List.length_cons] at h2 ⊢
    omega
end Go.Proofs.YtdnljmncdbcgeaaGreat

/- Drawn regions in an order of ours: as Mix, but the operations are told in any order that the region may have. No program. -/
namespace Go.Proofs.YtdnljmncdbcgeaaGreat
open Go.RowKit

section
variable {P : Program} {ops : Array Oper} {md : Region.Mode} {C : World → Prop}
def mixP (md : Region.Mode) (ops : Array Oper) (g m : Nat) : List (Nat × Bool) → Array Bool → Bool
  | [], listed => Region.seqB md ops g m listed
  | (k, true) :: ks, listed => decide (k < m) && (Region.ready md ops listed).contains k && Region.free md ops listed k && mixP md ops g m ks (listed.setIfInBounds k true)
  | (k, false) :: ks, listed => decide (k < m) && decide (Region.ready md ops listed = [k]) && mixP md ops g m ks (listed.setIfInBounds k true)
theorem mix_perm {m g : Nat} {Lq : Act → World → Prop} (hsel : ∀ (j : Nat) (o : Oper) cs b, ops[j]? = some o → o.op ≠ .select cs b) (hT : TailWaitsB md ops m) :
    ∀ (ks : List (Nat × Bool)) (l : List Oper) (listed : Array Bool) (a : Act) (w : World), l.map some = ks.map (fun x => ops[x.1]?) → HeadInv md ops m listed →
    mixP md ops g m ks listed = true → wpMix P ops C Lq (ks.map (·.2)) l a w →
    wpAnyT P md ops C m (fun listed' a' w' => Region.seqB md ops g m listed' = true ∧ Lq a' w') l.length listed a w
  | [], [], listed, a, w, _, _, hB, h => ⟨h.1, seqB_ready hB, hB, h.2⟩
  | (k, true) :: ks, o :: l, listed, a, w, hl, inv, hB, h => by
    simp only [List.map_cons, List.cons.injEq] at hl
    have h0 : ops[k]? = some o := hl.1.symm
    simp only [mixP, Bool.and_eq_true, decide_eq_true_eq] at hB
    obtain ⟨⟨⟨hkm, hr⟩, hf⟩, hB'⟩ := hB
    have hr' : k ∈ Region.ready md ops listed := by simpa using hr
    obtain ⟨v, hy, h'⟩ := h
    exact wpAnyT_first h0 hkm hsel hT _ listed a w inv (Region.free_spec h0 hf) hr' hy (mix_perm hsel hT ks l _ _ w hl.2 (inv.set hr' hkm) hB' h')
  | (k, false) :: ks, o :: l, listed, a, w, hl, inv, hB, h => by
    simp only [List.map_cons, List.cons.injEq] at hl
    have h0 : ops[k]? = some o := hl.1.symm
    simp only [mixP, Bool.and_eq_true, decide_eq_true_eq] at hB
    obtain ⟨⟨hkm, hr⟩, hB'⟩ := hB
    obtain ⟨hc, h'⟩ := h
    refine ⟨hc, fun h1 => (by rw [hr] at h1; cases h1), fun i hi => ?_⟩
    have hi' := hi
    rw [hr] at hi
    have hik : i = k := by simpa using hi
    subst hik
    refine ⟨hkm, ?_⟩
    have rec_ : ∀ a' w', wpMix P ops C Lq (ks.map (·.2)) l a' w' → wpAnyT P md ops C m (fun listed' a' w' => Region.seqB md ops g m listed' = true ∧ Lq a' w') l.length (listed.setIfInBounds i true) a' w' := fun a' w' h2 =>
      mix_perm hsel hT ks l _ a' w' hl.2 (inv.set hi' hkm) hB' h2
    unfold wpOp
    simp only [h0]
    rcases h' with ⟨hw, h'⟩ | ⟨hw, h'⟩
    · simp only [hw, if_true]
      exact .inl (Oper.wp_mono rec_ h')
    · simp only [hw, Bool.false_eq_true, if_false]
      exact rec_ _ _ h'
  | [], _ :: _, _, _, _, hl, _, _, _ => by simp at hl
  | (_, true) :: _, [], _, _, _, hl, _, _, _ => by simp at hl
  | (_, false) :: _, [], _, _, _, hl, _, _, _ => by simp at hl
theorem filterMap_some (l : List Oper) : ∀ (ks : List (Nat × Bool)), ks.all (fun x => decide (x.1 < l.length)) = true → (ks.filterMap fun x => l[x.1]?).map some = ks.map (fun x => l.toArray[x.1]?)
  | [], _ => rfl
  | x :: ks, h => by
    simp only [List.all_cons, Bool.and_eq_true, decide_eq_true_eq] at h
    have ih := filterMap_some l ks h.2
    rw [List.filterMap_cons, List.getElem?_eq_getElem h.1]
    simp only [List.map_cons]
    rw [ih, show l.toArray[x.1]? = some l[x.1] by simp [h.1]]
/-- the first operations in an order of ours, by kinds; the rest one behind the other -/
theorem wp_region_p {id : Nat} {Q : Exit → Act → World → Prop} {a : Act} {w : World} {l : List Oper} (ks : List (Nat × Bool)) (C : World → Prop) (hm : P.follows .mixedOrders = true)
    (hB : (ks.all (fun x => decide (x.1 < l.length)) && tailOkB l.toArray ks.length && mixP .any l.toArray (l.toArray.size - ks.length) ks.length ks (Array.replicate l.toArray.size false)) = true)
    (h : MixW P l.toArray C (fun a' w' => wpList P l.toArray Q (l.drop ks.length) a' w') (ks.map (·.2)) (ks.filterMap fun x => l[x.1]?) a w.drew) : (Code.region id l.toArray true).wp P Q a w := by
  rw [Bool.and_eq_true, Bool.and_eq_true] at hB
  obtain ⟨⟨hall, hok⟩, hlex⟩ := hB
  obtain ⟨hsel, hnl, hT⟩ := tailOkB_spec hok
  have hfm := filterMap_some l ks hall
  have hfl : (ks.filterMap fun x => l[x.1]?).length = ks.length := by simpa using congrArg List.length hfm
  have hdl : (l.drop ks.length).length = l.toArray.size - ks.length := by simp
  have H := mix_perm (P := P) (md := .any) (m := ks.length) (g := l.toArray.size - ks.length) (Region.noSelect_spec hsel) hT ks _ _ a w.drew hfm (inv_new ks.length) hlex h.go
  refine wp_region_any hm ?_
  have := wpAny_of_T (Q := Q) (g := l.toArray.size - ks.length) (fun listed a' w' hL => by
    have := wpAny_of_seq (md := .any) (Q' := Q) (l.drop ks.length) ks.length listed a' w' (fun j => by simp [List.getElem?_drop]) (by rw [hdl]; exact hL.1) hL.2
    rwa [hdl] at this) _ _ _ _ H
  rw [hfl, show ks.length + (l.toArray.size - ks.length) = l.toArray.size by simp at hnl ⊢; omega] at this
  exact this
end
end Go.Proofs.YtdnljmncdbcgeaaGreat

/- tree.Diff, Same. -/
namespace Go.Proofs.YtdnljmncdbcgeaaGreat
open Go.RowKit

/-- a tree, or none -/
def TreeP (w : World) (v : Option Addr) (L : List (List UInt8 × LV)) : Prop := (v = none ∧ L = []) ∨ ∃ tb mo, v = some ⟨tb, 0, none⟩ ∧ TreeAt w tb mo L
theorem TreeP.below {w w' : World} {v : Option Addr} {L : List (List UInt8 × LV)} (h : TreeP w v L) (k : Below w.heap.size w w') : TreeP w' v L := h.imp id fun ⟨tb, mo, e, ht⟩ => ⟨tb, mo, e, ht.below k⟩
theorem TreeP.ok {w : World} {v : Option Addr} {L : List (List UInt8 × LV)} (h : TreeP w v L) : TreeOk (plainL L) := by
  rcases h with ⟨_, rfl⟩ | ⟨tb, mo, _, ht⟩
  · exact TreeOk.nil
  · exact ht.plain
theorem treeget_nil (p : List UInt8) (w : World) : Calls Tryz.prog 117 #[.pointer none, .string ⟨⟨p⟩⟩] w fun e w' => e = .returned (leafO none) ∧ Below w.heap.size w w' := by
  unfold leafO
  go_enter Tryz.func117, Tryz.ntmps117
  go_wp2_with fail
  refine bodyPost_ret (v := .agg #[.int .i64 0, .slice none 0 0]) (by simp [results, Tryz.results117, go_sem]) rfl ?_
  exact ⟨rfl, (by repeat (first | exact Below.refl _ _ | refine Below.alloc ?_ (by simp) _ | refine Below.setCell ?_ (by simp) _ | refine Below.drew ?_))⟩
theorem treegetP_any (v : Option Addr) (L : List (List UInt8 × LV)) (p : List UInt8) (w : World) (h : TreeP w v L) (hp : p.length ≤ 140737488355328) :
    Calls Tryz.prog 117 #[.pointer v, .string ⟨⟨p⟩⟩] w fun e w' => e = .returned (leafO (getR L p)) ∧ Below w.heap.size w w' := by
  rcases h with ⟨rfl, rfl⟩ | ⟨tb, mo, rfl, ht⟩
  · exact treeget_nil p w
  · exact treeget_any tb mo L p w ht hp
theorem leafO_byT {w : World} {v : Option Addr} {L : List (List UInt8 × LV)} (h : TreeP w v L) (p : List UInt8) : ∃ (k : Int) (A' : Option Addr) (c : Nat) (l : List UInt8), leafO (getR L p) = .agg #[.int .i64 k, .slice A' l.length c] ∧ By w (fun _ => True) A' l ∧ Hid (at0 (plainL L) p = (k, l)) := by
  unfold at0
  rw [get_plain]
  rcases h with ⟨rfl, rfl⟩ | ⟨tb, mo, rfl, ht⟩
  · exact ⟨0, none, 0, [], rfl, Rd.nil, rfl⟩
  · rcases hg : getR L p with _ | ⟨k, A', c, l⟩
    · exact ⟨0, none, 0, [], rfl, Rd.nil, rfl⟩
    · exact ⟨k, A', c, l, rfl, (ht.ok _ (getR_mem hg)).1.mono (fun _ _ _ => trivial), rfl⟩
set_option maxHeartbeats 400000 in
theorem diff1_any (va vb : Option Addr) (L M : List (List UInt8 × LV)) (p : List UInt8) (xa xb : Nat) (w : World) (ha : TreeP w va L) (hb : TreeP w vb M) (hp : p.length ≤ 140737488355328) (hxa : Blk w xa 80 #[.pointer va]) (hxb : Blk w xb 80 #[.pointer vb]) :
    Calls Tryz.prog 132 #[.string ⟨⟨p⟩⟩, .pointer (some ⟨xa, 0, none⟩), .pointer (some ⟨xb, 0, none⟩)] w fun e w' => e = .returned (.bool (diffB (plainL L) (plainL M) p)) ∧ Below w.heap.size w w' := by
  obtain ⟨k1, A1, c1, l1, hv1, hy1, ha1⟩ := leafO_byT ha p
  obtain ⟨k2, A2, d2, l2, hv2, hy2, ha2⟩ := leafO_byT hb p
  have HG1 := Lib.hid (fun W (hW : Below w.heap.size w W) => treegetP_any va L p W (ha.below hW) hp)
  have HG2 := Lib.hid (fun W (hW : Below w.heap.size w W) => treegetP_any vb M p W (hb.below hW) hp)
  rw [hv1] at HG1
  rw [hv2] at HG2
  obtain ⟨sm, hsm⟩ : ∃ sm, sm = (k1 == k2 && l1 == l2) := ⟨_, rfl⟩
  have HG3 := Lib.hid (fun W (hW : Below w.heap.size w W) => leafSame_any k1 k2 A1 A2 c1 d2 l1 l2 _ _ W (hy1.below hW) (hy2.below hW))
  rw [← hsm] at HG3
  have hF : diffB (plainL L) (plainL M) p = !sm := by
    unfold diffB
    rw [ha1.out, ha2.out, hsm]
    rfl
  rw [hF]
  have q0 := Lib.hid hxa
  have q1 := Lib.hid hxb
  clear hF ha1 ha2 hsm hv1 hv2 hy1 hy2 ha hb hxa hxb
  go_enter Tryz.func132, Tryz.ntmps132
  go_wp2_with fail
  refine wp_region_b 9 (by kernel_rfl) (by kernel_rfl) ?_
  simp only [List.take_succ_cons, List.take_zero, List.drop_succ_cons, List.drop_zero]
  refine lb_val (by kernel_rfl) ⟨_, (by (intro w' hC; (have q := (q0.out.below hC).cell 0; simp at q); clear hC; (try go_simp); (try with_reducible rfl); done)), _, (by (simp only [Act.put, List.setIfInBounds_toArray, List.set_cons_zero, List.set_cons_succ]; rfl)), ?_⟩
  refine lb_move _ (by kernel_rfl) rfl ⟨_, (by ((try simp [go_sem]); (try rfl); done)), _, (by (simp only [Act.put, List.setIfInBounds_toArray, List.set_cons_zero, List.set_cons_succ]; rfl)), ?_⟩
  refine lb_call (by kernel_rfl) (fun w' hC => HG1.out w' hC) (by (intro w'; go_simp; done)) ⟨_, (by (simp only [Act.put, List.setIfInBounds_toArray, List.set_cons_zero, List.set_cons_succ]; rfl)), ?_⟩
  refine lb_val (by kernel_rfl) ⟨_, (by (intro w' hC; (have q := (q1.out.below hC).cell 0; simp at q); clear hC; (try go_simp); (try with_reducible rfl); done)), _, (by (simp only [Act.put, List.setIfInBounds_toArray, List.set_cons_zero, List.set_cons_succ]; rfl)), ?_⟩
  refine lb_move _ (by kernel_rfl) rfl ⟨_, (by ((try simp [go_sem]); (try rfl); done)), _, (by (simp only [Act.put, List.setIfInBounds_toArray, List.set_cons_zero, List.set_cons_succ]; rfl)), ?_⟩
  refine lb_call (by kernel_rfl) (fun w' hC => HG2.out w' hC) (by (intro w'; go_simp; done)) ⟨_, (by (simp only [Act.put, List.setIfInBounds_toArray, List.set_cons_zero, List.set_cons_succ]; rfl)), ?_⟩
  refine lb_call (by kernel_rfl) (fun w' hC => HG3.out w' hC) (by (intro w'; go_simp; done)) ⟨_, (by (simp only [Act.put, List.setIfInBounds_toArray, List.set_cons_zero, List.set_cons_succ]; rfl)), ?_⟩
  refine lb_val (by kernel_rfl) ⟨_, (by (intro w' hC; clear hC; (try go_simp); (try with_reducible rfl); done)), _, (by (simp only [Act.put, List.setIfInBounds_toArray, List.set_cons_zero, List.set_cons_succ]; rfl)), ?_⟩
  refine lb_assign _ (by kernel_rfl) rfl ⟨_, (by ((try simp [go_sem]); (try rfl); done)), _, (by (simp only [Act.put, List.setIfInBounds_toArray, List.set_cons_zero, List.set_cons_succ]; rfl)), ?_⟩
  refine .nil ?_
  intro w4 hb4
  go_wp2_with fail
  go_ret
  exact ⟨rfl, hb4⟩
end Go.Proofs.YtdnljmncdbcgeaaGreat

/- Moments, plainly: what stood where, and when another thing came. -/
namespace Go.Proofs.YtdnljmncdbcgeaaGreat

section
variable {α : Type}
def lastG (v : α) (H : List α) : α := H.getLast?.getD v
theorem last_snoc (v : α) (H : List α) (x : α) : lastG v (H ++ [x]) = x := by simp [lastG]
theorem last_cons (v x : α) (H : List α) : lastG v (x :: H) = lastG x H := by
  unfold lastG
  rcases H with _ | ⟨y, H⟩
  · rfl
  · rw [List.getLast?_cons_cons]
    rcases h : (y :: H).getLast? with _ | z
    · simp at h
    · rfl
end
section
variable {α : Type} [DecidableEq α]
/-- the turns of a row of moments that begins at moment i, behind v -/
def turnsG : Nat → α → List α → List (Nat × α)
  | _, _, [] => []
  | i, v, x :: H => if x = v then turnsG (i + 1) x H else (i, x) :: turnsG (i + 1) x H
theorem turns_snoc : ∀ (H : List α) (i : Nat) (v x : α), turnsG i v (H ++ [x]) = turnsG i v H ++ (if x = lastG v H then [] else [(i + H.length, x)])
  | [], _, _, _ => rfl
  | y :: H, i, v, x => by
    have ih := turns_snoc H (i + 1) y x
    rw [last_cons]
    simp only [List.cons_append, turnsG, List.length_cons]
    rw [ih, show i + 1 + H.length = i + (H.length + 1) by omega]
    by_cases h : y = v
    · rw [if_pos h, if_pos h]
    · rw [if_neg h, if_neg h, List.cons_append]
theorem turns_lt : ∀ (H : List α) (i : Nat) (v : α), ∀ t ∈ turnsG i v H, i ≤ t.1 ∧ t.1 < i + H.length
  | [], i, v, t, h => by simp [turnsG] at h
  | y :: H, i, v, t, h => by
    unfold turnsG at h
    have ih := turns_lt H (i + 1) y t
    rw [List.length_cons]
    split at h
    · have := ih h; omega
    · rcases List.mem_cons.1 h with rfl | h
      · simp
      · have := ih h; omega
theorem turns_len : ∀ (H : List α) (i : Nat) (v : α), (turnsG i v H).length ≤ H.length
  | [], i, v => by simp [turnsG]
  | y :: H, i, v => by
    have ih := turns_len H (i + 1) y
    unfold turnsG
    split
    · rw [List.length_cons]; omega
    · rw [List.length_cons, List.length_cons]; omega
/-- what stood at moment m, and till when: as the program looks for it -/
def scanG (m : Int) : List (Nat × α) → α → Nat → α × Nat
  | [], l, u => (l, u)
  | (a, x) :: R, l, u => if m < (a : Int) then (l, a) else scanG m R x u
theorem scan_turns : ∀ (H : List α) (i : Nat) (v : α) (m : Int),
    (m < (i : Int) → (scanG m (turnsG i v H) v (i + H.length)).1 = v ∧ i ≤ (scanG m (turnsG i v H) v (i + H.length)).2 ∧ (scanG m (turnsG i v H) v (i + H.length)).2 ≤ i + H.length ∧
      ∀ j, i ≤ j → j < (scanG m (turnsG i v H) v (i + H.length)).2 → H[j - i]? = some v) ∧
    (∀ k : Nat, m = (k : Int) → i ≤ k → k < i + H.length → H[k - i]? = some (scanG m (turnsG i v H) v (i + H.length)).1 ∧ k < (scanG m (turnsG i v H) v (i + H.length)).2 ∧ (scanG m (turnsG i v H) v (i + H.length)).2 ≤ i + H.length ∧
      ∀ j, k ≤ j → j < (scanG m (turnsG i v H) v (i + H.length)).2 → H[j - i]? = some (scanG m (turnsG i v H) v (i + H.length)).1)
  | [], i, v, m => by
    simp only [turnsG, scanG, List.length_nil, Nat.add_zero]
    exact ⟨fun _ => ⟨trivial, Nat.le_refl _, Nat.le_refl _, fun j h1 h2 => by omega⟩, fun k _ h1 h2 => by omega⟩
  | x :: H, i, v, m => by
    obtain ⟨ih1, ih2⟩ := scan_turns H (i + 1) x m
    have hl : i + (x :: H).length = i + 1 + H.length := by rw [List.length_cons]; omega
    rw [hl]
    have hget : ∀ j, i + 1 ≤ j → (x :: H)[j - i]? = H[j - (i + 1)]? := fun j hj => by
      rw [show j - i = (j - (i + 1)) + 1 by omega, List.getElem?_cons_succ]
    have hget0 : (x :: H)[i - i]? = some x := by rw [Nat.sub_self]; rfl
    -- what is said of the rest, from moment i on
    have key : ∀ k : Nat, m = (k : Int) → i ≤ k → k < i + 1 + H.length →
        (x :: H)[k - i]? = some (scanG m (turnsG (i + 1) x H) x (i + 1 + H.length)).1 ∧ k < (scanG m (turnsG (i + 1) x H) x (i + 1 + H.length)).2 ∧ (scanG m (turnsG (i + 1) x H) x (i + 1 + H.length)).2 ≤ i + 1 + H.length ∧
        ∀ j, k ≤ j → j < (scanG m (turnsG (i + 1) x H) x (i + 1 + H.length)).2 → (x :: H)[j - i]? = some (scanG m (turnsG (i + 1) x H) x (i + 1 + H.length)).1 := by
      intro k hk h1 h2
      by_cases e : k = i
      · obtain ⟨a, b, c, d⟩ := ih1 (by omega)
        rw [a]
        refine ⟨by rw [e]; exact hget0, by omega, c, fun j hj1 hj2 => ?_⟩
        by_cases ej : j = i
        · rw [ej]; exact hget0
        · rw [hget j (by omega)]; exact d j (by omega) hj2
      · obtain ⟨a, b, c, d⟩ := ih2 k hk (by omega) h2
        refine ⟨by rw [hget k (by omega)]; exact a, b, c, fun j hj1 hj2 => ?_⟩
        rw [hget j (by omega)]; exact d j hj1 hj2
    unfold turnsG
    by_cases hx : x = v
    · rw [if_pos hx]
      subst hx
      refine ⟨fun hm => ?_, fun k hk h1 h2 => key k hk h1 h2⟩
      obtain ⟨a, b, c, d⟩ := ih1 (by omega)
      refine ⟨a, by omega, c, fun j hj1 hj2 => ?_⟩
      by_cases ej : j = i
      · rw [ej]; exact hget0
      · rw [hget j (by omega)]; exact d j (by omega) hj2
    · rw [if_neg hx]
      simp only [scanG]
      by_cases hm : m < (i : Int)
      · rw [if_pos hm]
        exact ⟨fun _ => ⟨rfl, Nat.le_refl _, by omega, fun j h1 h2 => by omega⟩, fun k hk h1 h2 => by omega⟩
      · rw [if_neg hm]
        exact ⟨fun h => absurd h hm, fun k hk h1 h2 => key k hk h1 h2⟩
end
/-- is there a moment from a on, below b, of which P holds? -/
def someG (P : Nat → Bool) (n : Nat) (a b : Int) : Bool := (List.range n).any fun j => decide (a ≤ (j : Int)) && decide ((j : Int) < b) && P j
theorem some_true {P : Nat → Bool} {n : Nat} {a b : Int} {j : Nat} (h : j < n) (h1 : a ≤ (j : Int)) (h2 : (j : Int) < b) (h3 : P j = true) : someG P n a b = true := by
  unfold someG
  rw [List.any_eq_true]
  exact ⟨j, List.mem_range.2 h, by simp [h1, h2, h3]⟩
theorem some_false {P : Nat → Bool} {n : Nat} {a b : Int} (h : ∀ j, j < n → a ≤ (j : Int) → (j : Int) < b → P j = false) : someG P n a b = false := by
  unfold someG
  rw [List.any_eq_false]
  intro j hj
  have := h j (List.mem_range.1 hj)
  simp only [Bool.and_eq_true, decide_eq_true_eq, not_and]
  intro h1
  simp [this h1.1 h1.2]
section
variable {α : Type} [DecidableEq α]
/-- did another thing come at moment i? -/
def turnedG (v : α) (H : List α) (i : Nat) : Bool := !decide (H[i]? = some (if i = 0 then v else H[i - 1]?.getD v))
theorem turns_at : ∀ (H : List α) (i : Nat) (v : α), (turnsG i v H).map (·.1) = ((List.range H.length).filter (turnedG v H)).map (· + i)
  | [], i, v => by simp [turnsG]
  | x :: H, i, v => by
    have ih := turns_at H (i + 1) x
    have h1 : List.range (x :: H).length = 0 :: (List.range H.length).map (· + 1) := by
      rw [List.length_cons, List.range_succ_eq_map]
    have h2 : ((List.range H.length).map (· + 1)).filter (turnedG v (x :: H)) = ((List.range H.length).filter (turnedG x H)).map (· + 1) := by
      rw [List.filter_map]
      congr 1
      apply List.filter_congr
      intro j _
      unfold turnedG
      simp only [Function.comp_apply, Nat.add_eq_zero_iff, Nat.one_ne_zero, and_false, if_false, List.getElem?_cons_succ, Nat.add_sub_cancel]
      rcases j with _ | j
      · simp
      · simp only [Nat.add_eq_zero_iff, Nat.one_ne_zero, and_false, if_false, Nat.add_sub_cancel, List.getElem?_cons_succ]
        congr 1
        refine decide_eq_decide.2 ?_
        by_cases hj : j < H.length
        · rw [List.getElem?_eq_getElem hj]; exact Iff.rfl
        · rw [List.getElem?_eq_none (show H.length ≤ j + 1 by omega)]
          simp
    have h3 : turnedG v (x :: H) 0 = !decide (x = v) := by simp [turnedG]
    rw [h1, List.filter_cons, h2, h3]
    unfold turnsG
    by_cases hx : x = v
    · rw [if_pos hx, ih]
      simp [hx, List.map_map, Function.comp_def]
      intro a _ _
      omega
    · rw [if_neg hx, List.map_cons, ih]
      simp [hx, List.map_map, Function.comp_def]
      intro a _ _
      omega
end
end Go.Proofs.YtdnljmncdbcgeaaGreat

/- watch.Log in memory: its sides, their rows of turns. -/
namespace Go.Proofs.YtdnljmncdbcgeaaGreat
open Go.RowKit

/-- a turn: its moment, and what came -/
structure TU where
  n : Nat
  o : LV
def TU.cells (t : TU) : List Value := [.int .i64 (t.n : Int), .int .i64 t.o.k, .slice t.o.x.A t.o.x.l.length t.o.x.c]
def TU.pl (t : TU) : Nat × LP := (t.n, t.o.p)
theorem tu_len (t : TU) : t.cells.length = 3 := rfl
theorem tu_info : (Tryz.prog.info? 111).map (fun i => (i.zero, i.size, i.bytes)) = some (some (.agg #[.int .i64 0, .int .i64 0, .slice none 0 0]), 3, 40) := by kernel_rfl
theorem tu_one (l : List TU) : ∀ u ∈ l.flatMap TU.cells, u.oneCell' = true := by
  intro u hu
  obtain ⟨x, _, hx⟩ := List.mem_flatMap.1 hu
  simp only [TU.cells, List.mem_cons, List.not_mem_nil, or_false] at hx
  rcases hx with rfl | rfl | rfl <;> rfl
/-- a row of turns in memory -/
structure RW where
  A : Option Addr
  c : Nat
  l : List TU
abbrev RW.v (r : RW) : Value := .slice r.A r.l.length r.c
def mapW (R : List (List UInt8 × RW)) : List (List UInt8 × Value) := R.map fun x => (x.1, x.2.v)
def rowsW (R : List (List UInt8 × RW)) (p : List UInt8) : List (Nat × LP) := ((getR R p).map fun r => r.l.map TU.pl).getD []
def blkW (R : List (List UInt8 × RW)) (b : Nat) : Prop := ∃ x ∈ R, ablk x.2.A = some b
theorem mapW_put (R : List (List UInt8 × RW)) (p : List UInt8) (r : RW) : mapW (putR R p r) = putR (mapW R) p r.v := (put_map RW.v R p r).symm
theorem mapW_get (R : List (List UInt8 × RW)) (p : List UInt8) : getR (mapW R) p = (getR R p).map RW.v := getR_map RW.v R p
/-- no bytes lie where S is -/
def NoB (w : World) (S : Nat → Prop) : Prop := ∀ b, S b → ∀ cs f, w.heap[b]? ≠ some (.cells cs 5 f)
theorem NoB.own {w : World} {S : Nat → Prop} (h : NoB w S) {base : Nat} {v : Value} {l : List UInt8} (ho : OwB w base v l) : ∀ g, v.ownBlock = some g → ¬ S g := by
  intro g hg hs
  rcases ho.2 with ⟨rfl, _⟩ | ⟨g', cap, cur, rfl, _, hh, _⟩
  · simp [Value.ownBlock] at hg
  · have e3 : g' = g := by simpa [Value.ownBlock] using hg
    subst e3
    exact h g' hs _ _ hh
theorem NoB.blk {w : World} {g : Nat} {t : TypeId} {cs : Array Value} (h : Blk w g t cs) (ht : t ≠ 5) : ∀ cs' f, w.heap[g]? ≠ some (.cells cs' 5 f) := by
  intro cs' f e
  have h1 : w.heap[g]? = some (.cells cs t (0, 0)) := h
  rw [h1] at e
  injection e with e
  injection e with e1 e2
  exact ht e2
theorem NoB.map {w : World} {b : Nat} {K : List (List UInt8 × Value)} (h : MapAt w Tryz.prog 9 b K) : ∀ cs' f, w.heap[b]? ≠ some (.cells cs' 5 f) := fun _ _ => h.not_cells
theorem NoB.row {w : World} {base : Nat} {e : TypeId} {size n c : Nat} {A : Option Addr} {xs : List Value} (h : Row w base e size A n c xs) (he : e ≠ 5) {b : Nat} (hb : ablk A = some b) : ∀ cs' f, w.heap[b]? ≠ some (.cells cs' 5 f) := by
  rcases A with _ | a
  · cases hb
  · obtain ⟨g, off, cur, e1, _, hk, _⟩ := h.at_ a rfl
    subst e1
    injection hb with hb
    subst hb
    exact NoB.blk hk he

/-- the turns of a side: the map (none ahead of the first moment), its rows apart from each other -/
structure TurnsAt (w : World) (m : Option Nat) (R : List (List UInt8 × RW)) : Prop where
  map : (m = none ∧ R = []) ∨ ∃ mb, m = some mb ∧ MapAt w Tryz.prog 9 mb (mapW R)
  row : ∀ x ∈ R, Row w 0 111 3 x.2.A x.2.l.length x.2.c (x.2.l.flatMap TU.cells)
  own : ∀ x ∈ R, ∀ t ∈ x.2.l, OwB w 0 (.slice t.o.x.A t.o.x.l.length t.o.x.c) t.o.x.l ∧ t.o.x.l.length ≤ 4096
  apart : ∀ x ∈ R, ∀ y ∈ R, x.1 ≠ y.1 → ∀ b, ablk x.2.A = some b → ablk y.2.A ≠ some b
  sort : SortR R
namespace TurnsAt
variable {w w' : World} {m : Option Nat} {R : List (List UInt8 × RW)}
theorem nil (w : World) : TurnsAt w none [] := ⟨.inl ⟨rfl, rfl⟩, by simp, by simp, by simp, sortR_nil⟩
theorem fr {S : Nat → Prop} (h : TurnsAt w m R) (k : Fr S w w') (h1 : ∀ b, m = some b → ¬ S b) (h2 : ∀ b, blkW R b → ¬ S b) (h3 : NoB w S) : TurnsAt w' m R :=
  ⟨h.map.imp id fun ⟨mb, e, hm⟩ => ⟨mb, e, hm.block (k.block mb hm.lt (h1 mb e))⟩,
   fun x hx => (h.row x hx).fr k (fun g hg => h2 g ⟨x, hx, hg⟩),
   fun x hx t ht => ⟨own_fr (h.own x hx t ht).1 k (h3.own (h.own x hx t ht).1), (h.own x hx t ht).2⟩, h.apart, h.sort⟩
theorem below (h : TurnsAt w m R) (k : Below w.heap.size w w') : TurnsAt w' m R := h.fr (Fr.of_below k (fun _ => False)) (fun _ _ h => h) (fun _ _ h => h) (fun _ h => h.elim)
theorem mlt (h : TurnsAt w m R) : ∀ b, m = some b → b < w.heap.size := fun b e => by
  rcases h.map with ⟨e1, _⟩ | ⟨mb, e1, hm⟩
  · rw [e1] at e; cases e
  · rw [e1] at e; injection e with e; exact e ▸ hm.lt
theorem rlt (h : TurnsAt w m R) : ∀ b, blkW R b → b < w.heap.size := fun _ ⟨x, hx, hb⟩ => ((h.row x hx).lt _ hb).2
theorem nob (h : TurnsAt w m R) {gb : Nat} {cs : Array Value} (hg : Blk w gb 102 cs) : NoB w (fun b => b = gb ∨ m = some b ∨ blkW R b) := by
  rintro b (rfl | e | ⟨x, hx, hb⟩)
  · exact NoB.blk hg (by decide)
  · rcases h.map with ⟨e1, _⟩ | ⟨mb, e1, hm⟩
    · rw [e1] at e; cases e
    · rw [e1] at e; injection e with e; exact e ▸ NoB.map hm
  · exact NoB.row (h.row x hx) (by decide) hb
end TurnsAt
/-- a tree or none, its blocks among C -/
def TreeQ (w : World) (C : Nat → Prop) (v : Option Addr) (L : List (List UInt8 × LV)) : Prop := (v = none ∧ L = []) ∨ ∃ tb mo, v = some ⟨tb, 0, none⟩ ∧ TreeAt w tb mo L ∧ C tb ∧ ∀ b, mo = some b → C b
namespace TreeQ
variable {w w' : World} {C C' : Nat → Prop} {v : Option Addr} {L : List (List UInt8 × LV)}
theorem p (h : TreeQ w C v L) : TreeP w v L := h.imp id fun ⟨tb, mo, e, ht, _⟩ => ⟨tb, mo, e, ht⟩
theorem fr {S : Nat → Prop} (h : TreeQ w C v L) (k : Fr S w w') (hs : ∀ b, C b → ¬ S b) (hn : NoB w S) : TreeQ w' C v L :=
  h.imp id fun ⟨tb, mo, e, ht, h1, h2⟩ => ⟨tb, mo, e, ht.fr k (hs _ h1) (fun m e => hs _ (h2 m e)) (fun x hx => hn.own (ht.own x hx)), h1, h2⟩
theorem below (h : TreeQ w C v L) (k : Below w.heap.size w w') : TreeQ w' C v L := h.fr (Fr.of_below k (fun _ => False)) (fun _ _ h => h) (fun _ h => h.elim)
theorem mono (h : TreeQ w C v L) (hc : ∀ b, b < w.heap.size → C b → C' b) : TreeQ w C' v L :=
  h.imp id fun ⟨tb, mo, e, ht, h1, h2⟩ => ⟨tb, mo, e, ht, hc _ ht.blk.lt h1, fun b eb => hc b (by
    rcases ht.map with ⟨e1, _⟩ | ⟨mb, e1, hm⟩
    · rw [e1] at eb; cases eb
    · rw [e1] at eb; injection eb with eb; exact eb ▸ hm.lt) (h2 b eb)⟩
end TreeQ
/-- a side: its last tree, its turns; its blocks among C -/
structure SideAt (w : World) (C : Nat → Prop) (v : Option Addr) (m : Option Nat) (L : List (List UInt8 × LV)) (R : List (List UInt8 × RW)) : Prop where
  last : TreeQ w C v L
  turns : TurnsAt w m R
  cm : ∀ b, m = some b → C b
  cr : ∀ b, blkW R b → C b
namespace SideAt
variable {w w' : World} {C C' : Nat → Prop} {v : Option Addr} {m : Option Nat} {L : List (List UInt8 × LV)} {R : List (List UInt8 × RW)}
theorem fr {S : Nat → Prop} (h : SideAt w C v m L R) (k : Fr S w w') (hs : ∀ b, C b → ¬ S b) (hn : NoB w S) : SideAt w' C v m L R :=
  ⟨h.last.fr k hs hn, h.turns.fr k (fun b e => hs b (h.cm b e)) (fun b e => hs b (h.cr b e)) hn, h.cm, h.cr⟩
theorem below (h : SideAt w C v m L R) (k : Below w.heap.size w w') : SideAt w' C v m L R := h.fr (Fr.of_below k (fun _ => False)) (fun _ _ h => h) (fun _ h => h.elim)
theorem mono (h : SideAt w C v m L R) (hc : ∀ b, b < w.heap.size → C b → C' b) : SideAt w C' v m L R :=
  ⟨h.last.mono hc, h.turns, fun b e => hc b (h.turns.mlt b e) (h.cm b e), fun b e => hc b (h.turns.rlt b e) (h.cr b e)⟩
theorem nil (w : World) (C : Nat → Prop) : SideAt w C none none [] [] := ⟨.inl ⟨rfl, rfl⟩, TurnsAt.nil w, by simp, by rintro b ⟨x, hx, _⟩; cases hx⟩
end SideAt
end Go.Proofs.YtdnljmncdbcgeaaGreat

/- What slices.Compact makes of a sorted row of texts: plain. -/
namespace Go.Proofs.YtdnljmncdbcgeaaGreat
open Go.RowKit Go.Lib

theorem compact_spec (zs : List (List UInt8)) (hs : zs.Pairwise fun a b => leT a b = true) : ∀ m, m ≤ zs.length →
    (∀ x, x ∈ compactUpTo zs.toArray m ↔ x ∈ zs.take m) ∧ (compactUpTo zs.toArray m).Pairwise fun a b => leT a b = true ∧ a ≠ b
  | 0, _ => ⟨by simp [compactUpTo], by simp [compactUpTo]⟩
  | m + 1, hm => by
    obtain ⟨h1, h2⟩ := compact_spec zs hs m (by omega)
    rw [compactUpTo_succ]
    have hlt : m < zs.length := by omega
    have ht : zs.take (m + 1) = zs.take m ++ [zs[m]] := List.take_succ_eq_append_getElem hlt
    have hg : zs.toArray[m]! = zs[m] := by simp [hlt]
    have hle : ∀ x ∈ zs.take m, leT x zs[m] = true := by
      intro x hx
      have hp : (zs.take (m + 1)).Pairwise fun a b => leT a b = true := hs.sublist (List.take_sublist _ _)
      rw [ht] at hp
      exact (List.pairwise_append.1 hp).2.2 x hx _ (by simp)
    rw [hg]
    by_cases hk : keeps zs.toArray m = true
    · rw [if_pos hk]
      have hne : ∀ x ∈ zs.take m, x ≠ zs[m] := by
        intro x hx e
        have hm0 : 0 < m := by
          rcases Nat.eq_zero_or_pos m with rfl | h
          · simp at hx
          · exact h
        have hg1 : zs.toArray[m - 1]! = zs[m - 1] := by simp [show m - 1 < zs.length by omega]
        unfold keeps at hk
        rw [hg, hg1] at hk
        simp only [decide_eq_true_eq] at hk
        rcases hk with hk | hk
        · omega
        · obtain ⟨i, hi, rfl⟩ := List.getElem_of_mem hx
          rw [List.length_take] at hi
          rw [List.getElem_take] at e
          have e1 : leT zs[i] zs[m - 1] = true := by
            by_cases hi2 : i = m - 1
            · subst hi2
              have := leT_total zs[m - 1] zs[m - 1]
              simpa using this
            · exact List.pairwise_iff_getElem.1 hs i (m - 1) (by omega) (by omega) (by omega)
          have e2 : leT zs[m - 1] zs[m] = true := List.pairwise_iff_getElem.1 hs (m - 1) m (by omega) (by omega) (by omega)
          rw [e] at e1
          exact hk (leT_anti _ _ e1 e2)
      refine ⟨fun x => ?_, ?_⟩
      · rw [ht, List.mem_append, List.mem_append, h1]
      · rw [List.pairwise_append]
        refine ⟨h2, by simp, fun a ha b hb => ?_⟩
        rw [List.mem_singleton.1 hb]
        have ha' := (h1 a).1 ha
        exact ⟨hle a ha', hne a ha'⟩
    · rw [if_neg hk, List.append_nil]
      refine ⟨fun x => ?_, h2⟩
      rw [ht, List.mem_append, h1]
      refine ⟨.inl, fun h => h.elim id fun h => ?_⟩
      rw [List.mem_singleton.1 h]
      unfold keeps at hk
      simp only [decide_eq_true_eq, not_or, Classical.not_not] at hk
      have hg1 : zs.toArray[m - 1]! = zs[m - 1] := by simp [show m - 1 < zs.length by omega]
      rw [hg, hg1] at hk
      rw [hk.2]
      have : zs[m - 1] = (zs.take m)[m - 1]'(by rw [List.length_take]; omega) := by rw [List.getElem_take]
      rw [this]
      exact List.getElem_mem _
/-- two rows of paths, sorted, each once: the paths of both -/
theorem compact_union (ss ts : List (List UInt8)) {α : Type} {U : List (List UInt8 × α)} (hU : SortR U) (f : List UInt8 → Bool) (hm : ∀ k, k ∈ ss ++ ts ↔ (k ∈ keysR U ∧ f k = true)) : compact ((ss ++ ts).mergeSort leT) = (keysR U).filter f := by
  have hso : ((ss ++ ts).mergeSort leT).Pairwise fun a b => leT a b = true := List.pairwise_mergeSort leT_trans leT_total _
  obtain ⟨h1, h2⟩ := compact_spec _ hso _ (Nat.le_refl _)
  rw [List.take_length] at h1
  have hnd : (compact ((ss ++ ts).mergeSort leT)).Nodup := by
    rw [List.nodup_iff_pairwise_ne]
    exact h2.imp fun h => h.2
  have hmm : ∀ k, k ∈ compact ((ss ++ ts).mergeSort leT) ↔ (k ∈ keysR U ∧ f k = true) := by
    intro k
    rw [← hm k]
    exact (h1 k).trans (List.mergeSort_perm _ _).mem_iff
  have hp : (compact ((ss ++ ts).mergeSort leT)).Perm ((keysR U).filter f) := (List.perm_ext_iff_of_nodup hnd (hU.nodup.filter _)).2 fun k => by rw [hmm, List.mem_filter]
  exact List.Perm.eq_of_pairwise (le := fun a b => leT a b = true) (fun a b _ _ h1 h2 => leT_anti a b h1 h2) (h2.imp fun h => h.1) (hU.keys.filter _) hp
end Go.Proofs.YtdnljmncdbcgeaaGreat

/-
  DERIVED: THE SHELF's CONTRACTS AT THIS DUMP, IN PLAIN WORDS (tools/lay-plain.mjs out of 'TryzLays.lean', which tools/lay-shelf.mjs wrote): THE SAME DECLARATIONS UNDER THE SAME NAMES: 'import', 'namespace', 'open', 'def', 'theorem' AND NOTHING ELSE: no command of the shelf's: FOR A HAND-IN. Each laying: the table of numbers ('.._ren') and one theorem, a field a fact of the dump's own or the kernel's comparison; each contract: ONE APPLICATION.
-/
namespace Go.Proofs
open Go.Shelf
def Tryz.sortT_ren : Go.Shelf.Ren := ⟨fun | 6 => 130 | 15 => 146 | 14 => 145 | 28 => 163 | 29 => 126 | 20 => 155 | 21 => 156 | 22 => 157 | 23 => 158 | 24 => 159 | 25 => 160 | 26 => 161 | 27 => 162 | 46 => 167 | 47 => 168 | 48 => 169 | 49 => 170 | 50 => 171 | 57 => 172 | n => n, fun | 22 => 54 | 24 => 9 | 25 => 137 | 3 => 3 | 39 => 166 | 0 => 0 | 53 => 211 | 55 => 48 | 4 => 4 | 46 => 204 | 45 => 203 | 50 => 208 | 5 => 5 | 9 => 9 | 66 => 214 | 70 => 217 | 76 => 219 | 77 => 220 | n => n, fun | n => n⟩
theorem Tryz.sortT : Go.Proofs.SlLaysF.n6 Tryz.prog Tryz.sortT_ren := {
  mixed := by kernel_rfl
  f6 := ⟨Tryz.f130.name, by decide, Tryz.func130.trans (congrArg some (by kernel_rfl))⟩
  f14 := ⟨Tryz.f145.name, by decide, Tryz.func145.trans (congrArg some (by kernel_rfl))⟩
  f15 := Tryz.func146.trans (congrArg some (by kernel_rfl))
  f20 := ⟨Tryz.f155.name, by decide, Tryz.func155.trans (congrArg some (by kernel_rfl))⟩
  f21 := ⟨Tryz.f156.name, by decide, Tryz.func156.trans (congrArg some (by kernel_rfl))⟩
  f22 := ⟨Tryz.f157.name, by decide, Tryz.func157.trans (congrArg some (by kernel_rfl))⟩
  f23 := ⟨Tryz.f158.name, by decide, Tryz.func158.trans (congrArg some (by kernel_rfl))⟩
  f24 := ⟨Tryz.f159.name, by decide, Tryz.func159.trans (congrArg some (by kernel_rfl))⟩
  f25 := ⟨Tryz.f160.name, by decide, Tryz.func160.trans (congrArg some (by kernel_rfl))⟩
  f26 := ⟨Tryz.f161.name, by decide, Tryz.func161.trans (congrArg some (by kernel_rfl))⟩
  f27 := ⟨Tryz.f162.name, by decide, Tryz.func162.trans (congrArg some (by kernel_rfl))⟩
  f28 := Tryz.func163.trans (congrArg some (by kernel_rfl))
  f29 := Tryz.func126.trans (congrArg some (by kernel_rfl))
  f46 := ⟨Tryz.f167.name, by decide, Tryz.func167.trans (congrArg some (by kernel_rfl))⟩
  f47 := Tryz.func168.trans (congrArg some (by kernel_rfl))
  f48 := Tryz.func169.trans (congrArg some (by kernel_rfl))
  f49 := ⟨Tryz.f170.name, by decide, Tryz.func170.trans (congrArg some (by kernel_rfl))⟩
  f50 := ⟨Tryz.f171.name, by decide, Tryz.func171.trans (congrArg some (by kernel_rfl))⟩
  f57 := ⟨Tryz.f172.name, by decide, Tryz.func172.trans (congrArg some (by kernel_rfl))⟩
  t0 := Tryz.underlying0
  a0 := Tryz.isAgg0
  z0 := Tryz.sizeOf0
  v0 := Tryz.zeroValue0
  t3 := Tryz.underlying3
  a3 := Tryz.isAgg3
  z3 := Tryz.sizeOf3
  v3 := Tryz.zeroValue3
  t4 := Tryz.underlying4
  a4 := Tryz.isAgg4
  z4 := Tryz.sizeOf4
  v4 := Tryz.zeroValue4
  t5 := Tryz.underlying5
  a5 := Tryz.isAgg5
  z5 := Tryz.sizeOf5
  v5 := Tryz.zeroValue5
  t9 := Tryz.underlying9
  a9 := Tryz.isAgg9
  z9 := Tryz.sizeOf9
  v9 := Tryz.zeroValue9
  t22 := Tryz.underlying54
  a22 := Tryz.isAgg54
  z22 := Tryz.sizeOf54
  v22 := Tryz.zeroValue54
  a24 := Tryz.isAgg9
  z24 := Tryz.sizeOf9
  t25 := Tryz.underlying137
  a25 := Tryz.isAgg137
  z25 := Tryz.sizeOf137
  v25 := Tryz.zeroValue137
  t39 := Tryz.underlying166
  a39 := Tryz.isAgg166
  z39 := Tryz.sizeOf166
  v39 := Tryz.zeroValue166
  t45 := Tryz.underlying203
  a45 := Tryz.isAgg203
  z45 := Tryz.sizeOf203
  v45 := Tryz.zeroValue203
  t46 := Tryz.underlying204
  a46 := Tryz.isAgg204
  z46 := Tryz.sizeOf204
  v46 := Tryz.zeroValue204
  t50 := Tryz.underlying208
  a50 := Tryz.isAgg208
  z50 := Tryz.sizeOf208
  v50 := Tryz.zeroValue208
  t53 := Tryz.underlying211
  a53 := Tryz.isAgg211
  z53 := Tryz.sizeOf211
  v53 := Tryz.zeroValue211
  t55 := Tryz.underlying48
  a55 := Tryz.isAgg48
  z55 := Tryz.sizeOf48
  v55 := Tryz.zeroValue48
  t66 := Tryz.underlying214
  a66 := Tryz.isAgg214
  z66 := Tryz.sizeOf214
  v66 := Tryz.zeroValue214
  t70 := Tryz.underlying217
  a70 := Tryz.isAgg217
  z70 := Tryz.sizeOf217
  v70 := Tryz.zeroValue217
  t76 := Tryz.underlying219
  a76 := Tryz.isAgg219
  z76 := Tryz.sizeOf219
  v76 := Tryz.zeroValue219
  t77 := Tryz.underlying220
  a77 := Tryz.isAgg220
  z77 := Tryz.sizeOf220
  v77 := Tryz.zeroValue220 }
def Tryz.cloneM_ren : Go.Shelf.Ren := ⟨fun | 5 => 135 | 7 => 93 | n => n, fun | 23 => 86 | 25 => 9 | 3 => 25 | 4 => 4 | 20 => 20 | n => n, fun | n => n⟩
theorem Tryz.cloneM : Go.Proofs.SlLaysW.n5 Tryz.prog Tryz.cloneM_ren := {
  mixed := by kernel_rfl
  f5 := ⟨Tryz.f135.name, by decide, Tryz.func135.trans (congrArg some (by kernel_rfl))⟩
  f7 := Tryz.func93.trans (congrArg some (by kernel_rfl))
  t4 := Tryz.underlying4
  a4 := Tryz.isAgg4
  z4 := Tryz.sizeOf4
  v4 := Tryz.zeroValue4
  t20 := Tryz.underlying20
  a20 := Tryz.isAgg20
  z20 := Tryz.sizeOf20
  v20 := Tryz.zeroValue20
  t23 := Tryz.underlying86
  a23 := Tryz.isAgg86
  z23 := Tryz.sizeOf86
  v23 := Tryz.zeroValue86 }
def Tryz.keysB_ren : Go.Shelf.Ren := ⟨fun | 7 => 110 | 10 => 131 | n => n, fun | 23 => 117 | 26 => 9 | 3 => 59 | 28 => 174 | 0 => 0 | 27 => 173 | 33 => 144 | 4 => 4 | n => n, fun | n => n⟩
theorem Tryz.keysB : Go.Proofs.SlLaysZ.n7 Tryz.prog Tryz.keysB_ren := {
  mixed := by kernel_rfl
  f7 := ⟨Tryz.f110.name, by decide, Tryz.func110.trans (congrArg some (by kernel_rfl))⟩
  f10 := ⟨Tryz.f131.name, by decide, Tryz.func131.trans (congrArg some (by kernel_rfl))⟩
  t0 := Tryz.underlying0
  a0 := Tryz.isAgg0
  z0 := Tryz.sizeOf0
  v0 := Tryz.zeroValue0
  t4 := Tryz.underlying4
  a4 := Tryz.isAgg4
  z4 := Tryz.sizeOf4
  v4 := Tryz.zeroValue4
  t23 := Tryz.underlying117
  a23 := Tryz.isAgg117
  z23 := Tryz.sizeOf117
  v23 := Tryz.zeroValue117
  t26 := Tryz.underlying9
  a26 := Tryz.isAgg9
  z26 := Tryz.sizeOf9
  v26 := Tryz.zeroValue9
  t27 := Tryz.underlying173
  a27 := Tryz.isAgg173
  z27 := Tryz.sizeOf173
  v27 := Tryz.zeroValue173
  t28 := Tryz.underlying174
  a28 := Tryz.isAgg174
  z28 := Tryz.sizeOf174
  v28 := Tryz.zeroValue174
  t33 := Tryz.underlying144
  a33 := Tryz.isAgg144
  z33 := Tryz.sizeOf144
  v33 := Tryz.zeroValue144 }
def Tryz.collectB_ren : Go.Shelf.Ren := ⟨fun | 8 => 129 | 11 => 144 | n => n, fun | 26 => 9 | 28 => 174 | 24 => 54 | 0 => 0 | 33 => 144 | 4 => 4 | n => n, fun | n => n⟩
theorem Tryz.collectB : Go.Proofs.SlLaysZ.n8 Tryz.prog Tryz.collectB_ren := {
  mixed := by kernel_rfl
  f8 := ⟨Tryz.f129.name, by decide, Tryz.func129.trans (congrArg some (by kernel_rfl))⟩
  f11 := ⟨Tryz.f144.name, by decide, Tryz.func144.trans (congrArg some (by kernel_rfl))⟩
  t0 := Tryz.underlying0
  a0 := Tryz.isAgg0
  z0 := Tryz.sizeOf0
  v0 := Tryz.zeroValue0
  t24 := Tryz.underlying54
  a24 := Tryz.isAgg54
  z24 := Tryz.sizeOf54
  v24 := Tryz.zeroValue54
  t26 := Tryz.underlying9
  a26 := Tryz.isAgg9
  z26 := Tryz.sizeOf9
  v26 := Tryz.zeroValue9
  t28 := Tryz.underlying174
  a28 := Tryz.isAgg174
  z28 := Tryz.sizeOf174
  v28 := Tryz.zeroValue174
  i26 := by kernel_rfl }
def Tryz.cloneB_ren : Go.Shelf.Ren := ⟨fun | 5 => 56 | 7 => 93 | n => n, fun | 23 => 117 | 25 => 9 | 3 => 59 | 4 => 4 | 20 => 20 | n => n, fun | n => n⟩
theorem Tryz.cloneB : Go.Proofs.SlLaysW.n5 Tryz.prog Tryz.cloneB_ren := {
  mixed := by kernel_rfl
  f5 := ⟨Tryz.f56.name, by decide, Tryz.func56.trans (congrArg some (by kernel_rfl))⟩
  f7 := Tryz.func93.trans (congrArg some (by kernel_rfl))
  t4 := Tryz.underlying4
  a4 := Tryz.isAgg4
  z4 := Tryz.sizeOf4
  v4 := Tryz.zeroValue4
  t20 := Tryz.underlying20
  a20 := Tryz.isAgg20
  z20 := Tryz.sizeOf20
  v20 := Tryz.zeroValue20
  t23 := Tryz.underlying117
  a23 := Tryz.isAgg117
  z23 := Tryz.sizeOf117
  v23 := Tryz.zeroValue117 }
end Go.Proofs
