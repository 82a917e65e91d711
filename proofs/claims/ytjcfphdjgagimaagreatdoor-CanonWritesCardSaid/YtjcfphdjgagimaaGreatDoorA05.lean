/- Drawn regions in the text's order: operations that only tell what stays so (they may come at any time), others each of which is alone when it comes, and a tail behind all of them. No program. -/
import Derived.Test.YtjcfphdjgagimaaGreatDoorA04
import Derived.Tactics2
import Derived.Shelf.SlSortCmp.NoneTotal
import Derived.Ground.SlsfProg
import Derived.Test.YtjcfphdjgagimaaGreatDoorProg
import Derived.ChangeMaps5

namespace Go.Proofs.YtjcfphdjgagimaaGreatDoor
open Go.RowKit

section
variable {P : Program} {ops : Array Oper} {md : Region.Mode} {C : World → Prop}

/-- nothing but a value -/
def Qz : Exit → Act → World → Prop := fun _ _ _ => False
theorem letsOut_qz : ¬ LetsOut Qz := fun h => by
  obtain ⟨_, _, h⟩ := h
  exact h
theorem Oper.wp_of_z {o : Oper} {a : Act} {w : World} {K : Act → World → Prop} {Q : Exit → Act → World → Prop} (h : o.wp P a w K Qz) : o.wp P a w K Q := by
  unfold Oper.wp at *
  generalize (execOp a.eval o).run P w = r at *
  cases r with
  | ok n w' =>
    cases n <;> simp only [Oper.upon] at h ⊢
    case enter f args =>
      refine Calls.mono h fun e w'' he => ?_
      cases e with
      | returned u => exact he
      | panicked c => exact absurd he (by simp [Qz])
      | outgrown => exact absurd he letsOut_qz
    all_goals first | exact h | exact absurd h (by simp)
  | halt x w' =>
    cases x <;> simp only [Oper.upon] at h ⊢
    case panic u => exact absurd h (by simp [Qz])
theorem wpOp_of_z {i : Nat} {a : Act} {w : World} {K : Act → World → Prop} {Q : Exit → Act → World → Prop} (h : wpOp P ops Qz i K a w) : wpOp P ops Q i K a w := by
  unfold wpOp at *
  split
  · rename_i h0; simpa [h0] using h
  · rename_i o ho
    simp only [ho] at h
    split
    · rename_i hw
      simp only [hw, if_true] at h
      rcases h with h | ⟨_, h⟩
      · exact .inl (Oper.wp_of_z h)
      · exact absurd h letsOut_qz
    · rename_i hw; simpa [hw] using h

/-- in every world of the class it tells v, and nothing turns -/
def StC (P : Program) (ops : Array Oper) (C : World → Prop) (o : Oper) (v : Value) (a : Act) : Prop :=
  (Region.wanted o (yielded ops a.tmps) = true ∧ ∀ w, C w → (execOp a.eval o).run P w = .ok (.value v) w) ∨ (Region.wanted o (yielded ops a.tmps) = false ∧ v = undef)
theorem StC.of_same {o : Oper} {v : Value} {a a' : Act} (hy : StC P ops C o v a) (he : execOp a'.eval o = execOp a.eval o)
    (hw : Region.wanted o (yielded ops a'.tmps) = Region.wanted o (yielded ops a.tmps)) : StC P ops C o v a' := by
  unfold StC at *
  rw [he, hw]
  exact hy
theorem StC.wpOp {i : Nat} {o : Oper} {v : Value} {a : Act} {w : World} {K : Act → World → Prop} {Q : Exit → Act → World → Prop} (hi : ops[i]? = some o) (hy : StC P ops C o v a) (hw : C w)
    (hK : K (a.put o.dst v) w) : wpOp P ops Q i K a w := by
  unfold Go.wpOp
  simp only [hi]
  rcases hy with ⟨hwt, hv⟩ | ⟨hwt, rfl⟩
  · simp only [hwt, if_true, Oper.wp, hv w hw, Oper.upon]
    exact .inl hK
  · simp only [hwt, Bool.false_eq_true, if_false]
    exact hK

theorem wpOp_putC {j : Nat} {oi oj : Oper} {v : Value} (hj : ops[j]? = some oj) (hap : oi.apart ops oj = true)
    (hsi : ∀ cs b, oi.op ≠ .select cs b) (hsj : ∀ cs b, oj.op ≠ .select cs b) {K : Act → World → Prop} {a : Act} {w : World}
    (hy : StC P ops C oi v a) (h : wpOp P ops Qz j K (a.put oi.dst v) w) :
    wpOp P ops Qz j (fun a' w' => StC P ops C oi v a' ∧ K (a'.put oi.dst v) w') a w := by
  obtain ⟨h1, h2, h3⟩ := Oper.apart_spec hap
  have keep : ∀ (a : Act), StC P ops C oi v a → ∀ u, StC P ops C oi v (a.put oj.dst u) := fun a hy u =>
    hy.of_same (execOp_put oi hsi a oj.dst u h3) (wanted_put oi a oj.dst u h3)
  have keepD : ∀ d, StC P ops C oi v { a with defers := d :: a.defers } := fun d => hy.of_same rfl rfl
  unfold wpOp at *
  simp only [hj] at *
  rw [wanted_put oj a oi.dst v h1] at h
  split
  · rename_i hw
    simp only [hw, if_true] at h
    rcases h with h | ⟨_, hlets⟩
    case inr => exact absurd hlets letsOut_qz
    refine .inl ?_
    unfold Oper.wp at *
    rw [execOp_put oj hsj a oi.dst v h1] at h
    generalize (execOp a.eval oj).run P w = r at *
    cases r with
    | ok n w' =>
      cases n <;> simp only [Oper.upon] at h ⊢
      case value u => exact ⟨keep a hy u, by rw [← Act.put_comm a v u h2]; exact h⟩
      case skip => exact ⟨keep a hy _, by rw [← Act.put_comm a v undef h2]; exact h⟩
      case defer d =>
        refine ⟨keep _ (keepD d) _, ?_⟩
        rw [← Act.put_comm _ v undef h2, ← Act.put_defers]
        exact h
      case enter f args =>
        refine Calls.mono h fun e w'' he => ?_
        cases e with
        | returned u => exact ⟨keep a hy u, by rw [← Act.put_comm a v u h2]; exact he⟩
        | panicked c => exact absurd he (by simp [Qz])
        | outgrown => exact he
      case row row args => exact Rows.mono h fun u w'' he => ⟨keep a hy u, by rw [← Act.put_comm a v u h2]; exact he⟩
    | halt x w' =>
      cases x <;> simp only [Oper.upon] at h ⊢
      case panic u => exact absurd h (by simp [Qz])
  · rename_i hw
    simp only [hw] at h
    exact ⟨keep a hy _, by rw [← Act.put_comm a v undef h2]; exact h⟩

/-- so many operations below m, each of which may come up, then E -/
def wpAnyT (P : Program) (md : Region.Mode) (ops : Array Oper) (C : World → Prop) (m : Nat) (E : Array Bool → Act → World → Prop) : Nat → Array Bool → Act → World → Prop
  | 0, listed, a, w => C w ∧ (∀ j ∈ Region.ready md ops listed, m ≤ j) ∧ E listed a w
  | k + 1, listed, a, w => C w ∧ Region.ready md ops listed ≠ [] ∧ ∀ i ∈ Region.ready md ops listed, i < m ∧ wpOp P ops Qz i (wpAnyT P md ops C m E k (listed.setIfInBounds i true)) a w
theorem wpAnyT.c {m k : Nat} {E : Array Bool → Act → World → Prop} {listed : Array Bool} {a : Act} {w : World} (h : wpAnyT P md ops C m E k listed a w) : C w := by
  cases k with
  | zero => exact h.1
  | succ k => exact h.1

theorem wpAnyT_first {m i : Nat} {oi : Oper} {v : Value} {E : Array Bool → Act → World → Prop} (hi : ops[i]? = some oi) (him : i < m) (hsel : ∀ (j : Nat) (o : Oper) cs b, ops[j]? = some o → o.op ≠ .select cs b) (hT : TailWaitsB md ops m) :
    ∀ (fuel : Nat) (listed : Array Bool) (a : Act) (w : World), HeadInv md ops m listed →
      (∀ j oj, ops[j]? = some oj → j ≠ i → listed.getD j true = false → (∀ e ∈ oj.after, Region.binds md e = true → e.on ≠ i) → oi.apart ops oj = true) →
      i ∈ Region.ready md ops listed → StC P ops C oi v a →
      wpAnyT P md ops C m E fuel (listed.setIfInBounds i true) (a.put oi.dst v) w → wpAnyT P md ops C m E (fuel + 1) listed a w := by
  intro fuel
  induction fuel with
  | zero =>
    intro listed a w inv _ hr hy H
    refine ⟨H.c, fun h => (by rw [h] at hr; cases hr), fun j hj => ?_⟩
    by_cases hji : j = i
    · subst hji; exact ⟨him, hy.wpOp hi H.c H⟩
    · have h1 := H.2.1 j (ready_mono hj hji)
      have h2 := hT listed inv i him (mem_ready.1 hr).1 j hj
      omega
  | succ fuel ih =>
    intro listed a w inv hfree hr hy H
    refine ⟨H.c, fun h => (by rw [h] at hr; cases hr), fun j hj => ?_⟩
    by_cases hji : j = i
    · subst hji; exact ⟨him, hy.wpOp hi H.c H⟩
    · obtain ⟨hjm, h1⟩ := H.2.2 j (ready_mono hj hji)
      obtain ⟨hjun, oj, hoj, hall⟩ := mem_ready.1 hj
      have hnot : ∀ e ∈ oj.after, Region.binds md e = true → e.on ≠ i := fun e he hb heq => by
        have h1 := hall e he hb
        rw [heq, getD_both (mem_ready.1 hr).1] at h1
        cases h1
      have h2 := wpOp_putC hoj (hfree j oj hoj hji hjun hnot) (fun cs b => hsel i oi cs b hi) (fun cs b => hsel j oj cs b hoj) hy h1
      have hfree' : ∀ k ok, ops[k]? = some ok → k ≠ i → (listed.setIfInBounds j true).getD k true = false →
          (∀ e ∈ ok.after, Region.binds md e = true → e.on ≠ i) → oi.apart ops ok = true := fun k ok hk hki hun hno => by
        refine hfree k ok hk hki ?_ hno
        by_cases hjk : j = k
        · subst hjk; exact hjun
        · rw [getD_set_ne true hjk] at hun; exact hun
      refine ⟨hjm, wpOp_mono (fun a' w' h3 => ih (listed.setIfInBounds j true) a' w' (inv.set hj hjm) hfree' (ready_mono hr (Ne.symm hji)) h3.1 ?_) h2⟩
      rw [Array.setIfInBounds_comm _ _ hji]
      exact h3.2

theorem wpAny_of_T {m g : Nat} {E : Array Bool → Act → World → Prop} {Q : Exit → Act → World → Prop} (hE : ∀ listed a w, E listed a w → wpAny P md ops Q g listed a w) :
    ∀ (k : Nat) (listed : Array Bool) (a : Act) (w : World), wpAnyT P md ops C m E k listed a w → wpAny P md ops Q (k + g) listed a w
  | 0, listed, a, w, h => by rw [Nat.zero_add]; exact hE _ _ _ h.2.2
  | k + 1, listed, a, w, h => by
    rw [show k + 1 + g = (k + g) + 1 by omega]
    exact ⟨fun h0 => absurd h0 h.2.1, fun j hj => wpOp_mono (fun a' w' h' => wpAny_of_T hE k _ a' w' h') (wpOp_of_z (h.2.2 j hj).2)⟩

/-- the walk in the text's order: true: it only tells; false: it is alone -/
def wpMix (P : Program) (ops : Array Oper) (C : World → Prop) (E : Act → World → Prop) : List Bool → List Oper → Act → World → Prop
  | [], [], a, w => C w ∧ E a w
  | true :: ks, o :: l, a, w => ∃ v, StC P ops C o v a ∧ wpMix P ops C E ks l (a.put o.dst v) w
  | false :: ks, o :: l, a, w => C w ∧ ((Region.wanted o (yielded ops a.tmps) = true ∧ o.wp P a w (wpMix P ops C E ks l) Qz) ∨ (Region.wanted o (yielded ops a.tmps) = false ∧ wpMix P ops C E ks l (a.put o.dst undef) w))
  | _, _, _, _ => False
/-- nobody looks into it -/
structure MixW (P : Program) (ops : Array Oper) (C : World → Prop) (E : Act → World → Prop) (ks : List Bool) (l : List Oper) (a : Act) (w : World) : Prop where
  go : wpMix P ops C E ks l a w

def mixB (md : Region.Mode) (ops : Array Oper) (g : Nat) : List Bool → Nat → Array Bool → Bool
  | [], k, listed => Region.seqB md ops g k listed
  | true :: ks, k, listed => (Region.ready md ops listed).contains k && Region.free md ops listed k && mixB md ops g ks (k + 1) (listed.setIfInBounds k true)
  | false :: ks, k, listed => decide (Region.ready md ops listed = [k]) && mixB md ops g ks (k + 1) (listed.setIfInBounds k true)

theorem mix_lex {m g : Nat} {Lq : Act → World → Prop} (hsel : ∀ (j : Nat) (o : Oper) cs b, ops[j]? = some o → o.op ≠ .select cs b) (hT : TailWaitsB md ops m) :
    ∀ (ks : List Bool) (l : List Oper) (k : Nat) (listed : Array Bool) (a : Act) (w : World), (∀ j, j < l.length → l[j]? = ops[k + j]?) → k + l.length = m → HeadInv md ops m listed →
    mixB md ops g ks k listed = true → wpMix P ops C Lq ks l a w →
    wpAnyT P md ops C m (fun listed' a' w' => Region.seqB md ops g m listed' = true ∧ Lq a' w') l.length listed a w
  | [], [], k, listed, a, w, _, hk, _, hB, h => by
    have : k = m := by simpa using hk
    subst this
    exact ⟨h.1, seqB_ready hB, hB, h.2⟩
  | true :: ks, o :: l, k, listed, a, w, hl, hk, inv, hB, h => by
    have h0 : ops[k]? = some o := by simpa using (hl 0 (by simp)).symm
    simp only [mixB, Bool.and_eq_true] at hB
    obtain ⟨⟨hr, hf⟩, hB'⟩ := hB
    have hkm : k < m := by simp only [List.length_cons] at hk; omega
    have hr' : k ∈ Region.ready md ops listed := by simpa using hr
    obtain ⟨v, hy, h'⟩ := h
    exact wpAnyT_first h0 hkm hsel hT _ listed a w inv (Region.free_spec h0 hf) hr' hy
      (mix_lex hsel hT ks l (k + 1) _ _ w (fun j hj => by have := hl (j + 1) (by simp; omega); simpa [Nat.add_assoc, Nat.add_comm 1 j] using this) (by simp only [List.length_cons] at hk; omega) (inv.set hr' hkm) hB' h')
  | false :: ks, o :: l, k, listed, a, w, hl, hk, inv, hB, h => by
    have h0 : ops[k]? = some o := by simpa using (hl 0 (by simp)).symm
    simp only [mixB, Bool.and_eq_true, decide_eq_true_eq] at hB
    obtain ⟨hr, hB'⟩ := hB
    have hkm : k < m := by simp only [List.length_cons] at hk; omega
    obtain ⟨hc, h'⟩ := h
    refine ⟨hc, fun h1 => (by rw [hr] at h1; cases h1), fun i hi => ?_⟩
    have hi' := hi
    rw [hr] at hi
    have hik : i = k := by simpa using hi
    subst hik
    refine ⟨hkm, ?_⟩
    have rec_ : ∀ a' w', wpMix P ops C Lq ks l a' w' → wpAnyT P md ops C m (fun listed' a' w' => Region.seqB md ops g m listed' = true ∧ Lq a' w') l.length (listed.setIfInBounds i true) a' w' := fun a' w' h2 =>
      mix_lex hsel hT ks l (i + 1) _ a' w' (fun j hj => by have := hl (j + 1) (by simp; omega); simpa [Nat.add_assoc, Nat.add_comm 1 j] using this) (by simp only [List.length_cons] at hk; omega) (inv.set hi' hkm) hB' h2
    unfold wpOp
    simp only [h0]
    rcases h' with ⟨hw, h'⟩ | ⟨hw, h'⟩
    · simp only [hw, if_true]
      exact .inl (Oper.wp_mono rec_ h')
    · simp only [hw, Bool.false_eq_true, if_false]
      exact rec_ _ _ h'
  | [], _ :: _, _, _, _, _, _, _, _, _, h => h.elim
  | true :: _, [], _, _, _, _, _, _, _, _, h => h.elim
  | false :: _, [], _, _, _, _, _, _, _, _, h => h.elim

/-- the first operations by kinds, the rest one behind the other -/
theorem wp_region_m {id : Nat} {Q : Exit → Act → World → Prop} {a : Act} {w : World} {l : List Oper} (ks : List Bool) (C : World → Prop) (hm : P.follows .mixedOrders = true)
    (hB : (tailOkB l.toArray ks.length && mixB .any l.toArray (l.toArray.size - ks.length) ks 0 (Array.replicate l.toArray.size false)) = true)
    (h : MixW P l.toArray C (fun a' w' => wpList P l.toArray Q (l.drop ks.length) a' w') ks (l.take ks.length) a w.drew) : (Code.region id l.toArray true).wp P Q a w := by
  rw [Bool.and_eq_true] at hB
  obtain ⟨hok, hlex⟩ := hB
  obtain ⟨hsel, hnl, hT⟩ := tailOkB_spec hok
  have htl : (l.take ks.length).length = ks.length := by simp at hnl ⊢; omega
  have hdl : (l.drop ks.length).length = l.toArray.size - ks.length := by simp
  have H := mix_lex (P := P) (md := .any) (m := ks.length) (g := l.toArray.size - ks.length) (Region.noSelect_spec hsel) hT ks (l.take ks.length) 0 _ a w.drew (fun j hj => by
    have hj' : j < ks.length := by rw [htl] at hj; exact hj
    simp [hj']) (by rw [htl]; omega) (inv_new ks.length) hlex h.go
  refine wp_region_any hm ?_
  have := wpAny_of_T (Q := Q) (g := l.toArray.size - ks.length) (fun listed a' w' hL => by
    have := wpAny_of_seq (md := .any) (Q' := Q) (l.drop ks.length) ks.length listed a' w' (fun j => by simp [List.getElem?_drop]) (by rw [hdl]; exact hL.1) hL.2
    rwa [hdl] at this) _ _ _ _ H
  rw [htl, show ks.length + (l.toArray.size - ks.length) = l.toArray.size by omega] at this
  exact this

variable {E : Act → World → Prop} {ks : List Bool} {o : Oper} {rest : List Oper} {a : Act} {w : World}
theorem mx_skip (hw : Region.wanted o (yielded ops a.tmps) = false) (h : ∃ a', a.put o.dst undef = a' ∧ MixW P ops C E ks rest a' w) : MixW P ops C E (true :: ks) (o :: rest) a w := by
  obtain ⟨a', ha, h⟩ := h
  exact ⟨undef, .inr ⟨hw, rfl⟩, by rw [ha]; exact h.go⟩
theorem mx_val (hw : Region.wanted o (yielded ops a.tmps) = true) (h : ∃ v, (∀ w, C w → (execOp a.eval o).run P w = .ok (.value v) w) ∧ ∃ a', a.put o.dst v = a' ∧ MixW P ops C E ks rest a' w) : MixW P ops C E (true :: ks) (o :: rest) a w := by
  obtain ⟨v, hv, a', ha, h⟩ := h
  exact ⟨v, .inl ⟨hw, hv⟩, by rw [ha]; exact h.go⟩
theorem mx_move (x : Operand) (hw : Region.wanted o (yielded ops a.tmps) = true) (hop : o.op = .move x) (h : ∃ v, a.eval x = v ∧ ∃ a', a.put o.dst v = a' ∧ MixW P ops C E ks rest a' w) : MixW P ops C E (true :: ks) (o :: rest) a w := by
  obtain ⟨v, hv, h⟩ := h
  exact mx_val hw ⟨v, fun w _ => by rw [BigFrame.run_move x hop, hv], h⟩
/-- alone: a value, and a world -/
theorem mx_alone (hc : C w) (hw : Region.wanted o (yielded ops a.tmps) = true) (h : ∃ v w', (execOp a.eval o).run P w = .ok (.value v) w' ∧ ∃ a', a.put o.dst v = a' ∧ MixW P ops C E ks rest a' w') : MixW P ops C E (false :: ks) (o :: rest) a w := by
  obtain ⟨v, w', hv, a', ha, h⟩ := h
  refine ⟨hc, .inl ⟨hw, ?_⟩⟩
  unfold Oper.wp
  rw [hv]
  show wpMix P ops C E ks rest (a.put o.dst v) w'
  rw [ha]
  exact h.go
/-- alone: a call -/
theorem mx_call {f : FuncId} {args : Array Value} {R : Ending → World → Prop} (hc : C w) (hw : Region.wanted o (yielded ops a.tmps) = true) (hv : (execOp a.eval o).run P w = .ok (.enter f args) w) (hcall : Calls P f args w R)
    (h : ∀ e w', R e w' → ∃ v, e = .returned v ∧ ∃ a', a.put o.dst v = a' ∧ MixW P ops C E ks rest a' w') : MixW P ops C E (false :: ks) (o :: rest) a w := by
  refine ⟨hc, .inl ⟨hw, ?_⟩⟩
  unfold Oper.wp
  rw [hv]
  refine hcall.mono fun e w' he => ?_
  obtain ⟨v, rfl, a', ha, h⟩ := h e w' he
  show wpMix P ops C E ks rest (a.put o.dst v) w'
  rw [ha]
  exact h.go
theorem mx_idle (hc : C w) (hw : Region.wanted o (yielded ops a.tmps) = false) (h : ∃ a', a.put o.dst undef = a' ∧ MixW P ops C E ks rest a' w) : MixW P ops C E (false :: ks) (o :: rest) a w := by
  obtain ⟨a', ha, h⟩ := h
  exact ⟨hc, .inr ⟨hw, by rw [ha]; exact h.go⟩⟩
theorem mx_end (hc : C w) (h : E a w) : MixW P ops C E [] [] a w := ⟨hc, h⟩
end
end Go.Proofs.YtjcfphdjgagimaaGreatDoor

/- A map stays where only new memory comes. No program. -/
namespace Go.Proofs.YtjcfphdjgagimaaGreatDoor
open Go.RowKit Go.Maps

theorem MapAt.below {P : Program} {K : TypeId} {w w' : World} {b : Nat} {L : List (List UInt8 × Value)} (h : MapAt w P K b L) (k : Below w.heap.size w w') : MapAt w' P K b L := h.block (k.block b h.lt)
end Go.Proofs.YtjcfphdjgagimaaGreatDoor

/- tree.Tree.Set. -/
namespace Go.Proofs.YtjcfphdjgagimaaGreatDoor
open Go.RowKit Go.Maps

/-- what a call of Set leaves -/
structure TreeTo (w : World) (tb : Nat) (mo : Option Nat) (T : List (List UInt8 × LP)) (w' : World) : Prop where
  at_ : ∃ mo' L', TreeAt w' tb mo' L' ∧ Hid (plainL L' = T) ∧ ∀ m, mo' = some m → mo = some m ∨ w.heap.size ≤ m
  fr : Fr (fun g => g = tb ∨ mo = some g) w w'
theorem TreeTo.of {w w' : World} {tb : Nat} {mo : Option Nat} {L : List (List UInt8 × LV)} (h : TreeAt w tb mo L) (k : Below w.heap.size w w') : TreeTo w tb mo (plainL L) w' :=
  ⟨⟨mo, L, h.below k, rfl, fun _ e => .inl e⟩, Fr.of_below k _⟩
theorem plain_put (L : List (List UInt8 × LV)) (p : List UInt8) (o : LV) : plainL (putR L p o) = putR (plainL L) p o.p := (put_map LV.p L p o).symm
theorem plain_without (L : List (List UInt8 × LV)) (p : List UInt8) : plainL (withoutR L p) = withoutR (plainL L) p := (without_map LV.p L p).symm
theorem mapL_put (L : List (List UInt8 × LV)) (p : List UInt8) (o : LV) : mapL (putR L p o) = putR (mapL L) p o.v := (put_map LV.v L p o).symm
theorem mapL_without (L : List (List UInt8 × LV)) (p : List UInt8) : mapL (withoutR L p) = withoutR (mapL L) p := (without_map LV.v L p).symm
theorem map_eq_nil (w : World) (m : Option Nat) : (binOp .eql 64 (.map m) (.map none)).run Tryz.prog w = .ok (.bool m.isNone) w := run_eql_map_nil w _ _ _ m Tryz.underlying64
/-- bytes do not stand where a map's pointer stands -/
theorem By.not_map {w : World} {Z : Nat → Prop} {A : Option Addr} {l : List UInt8} {tb : Nat} {t : TypeId} {mo : Option Nat} (h : By w Z A l) (hb : Blk w tb t #[.map mo]) : By w (fun b => b ≠ tb) A l := by
  refine ⟨h.1, fun hn => ?_⟩
  obtain ⟨b, off, e, hz, hlt, hc⟩ := h.2 hn
  refine ⟨b, off, e, fun eb => ?_, hlt, hc⟩
  subst eb
  rcases l with _ | ⟨x, l⟩
  · simp at hn
  · have h1 := hc 0 (bv x) rfl
    rw [hb.cell] at h1
    rcases Nat.eq_zero_or_pos (off + 0) with h0 | h0
    · rw [h0] at h1; simp [bv] at h1
    · rw [Array.getElem?_eq_none (by simp; omega)] at h1; cases h1
/-- the map written -/
theorem TreeAt.stored {w w' : World} {tb mb : Nat} {L : List (List UInt8 × LV)} {p : List UInt8} {o : LV} (hb : Blk w tb 66 #[.map (some mb)]) (hm : MapAt w' Tryz.prog 9 mb (putR (mapL L) p o.v)) (hg : w.grownBy w' (some mb)) (hne : mb ≠ tb)
    {K : List (List UInt8 × Value)} (hm0 : MapAt w Tryz.prog 9 mb K) (hok : ∀ x ∈ L, OwB w 0 (.slice x.2.x.A x.2.x.l.length x.2.x.c) x.2.x.l) (ho : OwB w 0 (.slice o.x.A o.x.l.length o.x.c) o.x.l) (hpl : TreeOk (plainL (putR L p o))) : TreeAt w' tb (some mb) (putR L p o) := by
  have f : Fr (fun g => g = mb) w w' := Fr.of_grown hg (fun k _ e => by injection e with e; exact e.symm)
  refine ⟨hb.grown hg (by simpa using hne), .inr ⟨mb, rfl, by rw [mapL_put]; exact hm⟩, fun x hx => ?_, hpl⟩
  unfold putR at hx
  rcases mem_ins.1 hx with rfl | hx
  · exact own_fr ho f (fun g e1 e2 => TreeAt.own_map hm0 ho (by rw [e1, e2]))
  · exact own_fr (hok x (List.mem_filter.1 hx).1) f (fun g e1 e2 => TreeAt.own_map hm0 (hok x (List.mem_filter.1 hx).1) (by rw [e1, e2]))
theorem TreeAt.dropped {w w' : World} {tb mb : Nat} {L : List (List UInt8 × LV)} {p : List UInt8} (h : TreeAt w tb (some mb) L) (hm : MapAt w' Tryz.prog 9 mb (withoutR (mapL L) p)) (hg : w.grownBy w' (some mb)) (hpl : TreeOk (plainL (withoutR L p))) : TreeAt w' tb (some mb) (withoutR L p) := by
  have f : Fr (fun g => g = mb) w w' := Fr.of_grown hg (fun k _ e => by injection e with e; exact e.symm)
  refine ⟨h.blk.grown hg (fun e => h.ne e), .inr ⟨mb, rfl, by rw [mapL_without]; exact hm⟩, fun x hx => ?_, hpl⟩
  exact own_fr (h.own x (List.mem_filter.1 hx).1) f (fun g e1 e2 => h.ownT (h.own x (List.mem_filter.1 hx).1) (by decide) g e1 (.inr (by rw [e2])))


set_option maxRecDepth 100000 in
set_option maxHeartbeats 2000000 in
theorem treeSet_any (hS : SortsT) (tb : Nat) (mo : Option Nat) (L : List (List UInt8 × LV)) (p : List UInt8) (k : Int) (A : Option Addr) (c : Nat) (l : List UInt8) (Z : Nat → Prop) (w : World) (h : TreeAt w tb mo L) (hy : By w Z A l) (hp : p.length ≤ 1048576) (hn : l.length ≤ 140737488355328) :
    Calls Tryz.prog 21 #[.pointer (some ⟨tb, 0, none⟩), .string ⟨⟨p⟩⟩, .agg #[.int .i64 k, .slice A l.length c]] w fun e w' => e = .returned (.int .i64 (mayS (plainL L) p (k, l))) ∧ TreeTo w tb mo (setS (plainL L) p (k, l)) w' := by
  have HPL := Lib.hid (h.plain.set p (k, l))
  obtain ⟨M, hM⟩ : ∃ M, M = mayS (plainL L) p (k, l) := ⟨_, rfl⟩
  obtain ⟨T, hTT⟩ : ∃ T, T = setS (plainL L) p (k, l) := ⟨_, rfl⟩
  rw [← hM, ← hTT]
  rw [← hTT] at HPL
  have HM := Lib.hid hM
  have HTT : Hid (T = if M = 0 then doS (plainL L) p (k, l) else plainL L) := by show _ = _; rw [hTT, hM]; rfl
  clear hTT
  have HT := Lib.hid h
  have HY := Lib.hid hy
  have hb0 : Below w.heap.size w (w.alloc (.cells #[.int .i64 k, .slice A l.length c] 46)) := (by repeat (first | exact Below.refl _ _ | refine Below.alloc ?_ (by simp) _ | refine Below.setCell ?_ (by simp) _ | refine Below.drew ?_))
  have x0 := Blk.new w 46 #[.int .i64 k, .slice A l.length c]
  have q0 : (w.alloc (.cells #[.int .i64 k, .slice A l.length c] 46)).cell? ⟨w.heap.size, 0, none⟩ = some (.int .i64 k) := x0.cell 0
  have q1 : (w.alloc (.cells #[.int .i64 k, .slice A l.length c] 46)).cell? ⟨w.heap.size, 1, none⟩ = some (.slice A l.length c) := x0.cell 1
  have hpw : goodB p = false → Hid (M = 23) := fun e => by show _ = _; rw [HM.out]; unfold mayS; rw [if_pos e]
  clear h hy hM
  go_enter Tryz.func21, Tryz.ntmps21
  go_wp2_with fail
  clear q0 q1
  refine (treemay_any hS tb mo L p k A c l _ (HT.out.below hb0) hp hn).mono ?_
  rintro e w1 ⟨rfl, hb1⟩
  rw [← HM.out]
  have hw1 := hb0.trans (hb1.mono hb0.size)
  have x1 := x0.below hb1
  clear x0 hb0 hb1
  by_cases hM0 : M = 0
  · have hMb : (M != 0) = false := by simp [hM0]
    have hk : k = 0 ∨ k = 1 ∨ k = 2 := by
      have e := HM.out
      rw [hM0] at e
      unfold mayS at e
      split at e
      · simp at e
      · split at e
        · rename_i h2; exact absurd e.symm h2
        · rename_i h2
          exact checkN_kind (by simpa using h2)
    have hg : goodB p = true := by
      rcases hgg : goodB p with _ | _
      · have := (hpw hgg).out; omega
      · rfl
    have hp96 := goodB_len hg
    have HT2 : Hid (T = doS (plainL L) p (k, l)) := by show _ = _; rw [HTT.out, if_pos hM0]
    clear HTT HM hpw hg
    have q0 : w1.cell? ⟨w.heap.size, 0, none⟩ = some (.int .i64 k) := x1.cell 0
    have h1 := HT.out.below hw1
    have c0 := h1.c0
    by_cases hk0 : k = 0
    · have HT3 : Hid (T = withoutR (plainL L) p) := by show _ = _; rw [HT2.out]; unfold doS; rw [if_pos hk0]
      clear HT2 hk
      subst hk0
      rcases h1.map with ⟨rfl, rfl⟩ | ⟨mb, rfl, hm⟩
      · have hdr := fun ty => Maps.drop_nil (w := w1) str_keyed Tryz.underlying64 (Go.WideMaps.keyOf_string_mk Tryz.underlying9 (s := ⟨⟨p⟩⟩) (by show p.length ≤ _; simp only [maxLen]; omega)) ty
        subst hM0
        clear h1
        go_wp2_with fail
        go_ret
        refine ⟨rfl, ?_⟩
        rw [HT3.out]
        exact TreeTo.of HT.out hw1
      · obtain ⟨w2, hrun, hm2, hg2, _⟩ := hm.drop Tryz.underlying9 Tryz.underlying64 p (by simp only [maxLen]; omega) 0
        have HD := Lib.hid (h1.dropped hm2 hg2 (by rw [plain_without, ← HT3.out]; exact HPL.out))
        subst hM0
        clear h1 hm hm2
        go_wp2_with fail
        go_ret
        refine ⟨rfl, ⟨some mb, withoutR L p, HD.out, by show _ = _; rw [HT3.out, plain_without], fun m e => .inl e⟩, ?_⟩
        exact (Fr.of_below hw1 _).trans (Fr.of_grown hg2 (S := fun g => some mb = some g) (fun k _ e => e)) (fun x _ e => .inr e)
    · have HT3 : Hid (T = putR (plainL L) p (k, l)) := by show _ = _; rw [HT2.out]; unfold doS; rw [if_neg hk0]
      have hk0b : (k == 0) = false := by simpa using hk0
      clear HT2 hk hk0
      subst hM0
      rcases h1.map with ⟨rfl, rfl⟩ | ⟨mb, rfl, hm⟩
      · have hmm := @run_makeMap Tryz.prog
        have hmn := fun W m => map_eq_nil W m
        have f0 := h1.f0
        have hsz := hw1.size
        have htl := h1.blk.lt
        have htw := HT.out.blk.lt
        have b3 : Blk ((w1.setCell ⟨tb, 0, none⟩ (.map (some w1.heap.size))).alloc (.map #[] 0)) tb 66 #[.map (some w1.heap.size)] := by simpa using (h1.blk.set_ 0 (.map (some w1.heap.size))).alloc (.map #[] 0)
        have fS : Fr (fun g => g = tb) w1 ((w1.setCell ⟨tb, 0, none⟩ (.map (some w1.heap.size))).alloc (.map #[] 0)) := ((Fr.refl (fun g => g = tb) w1).setAt tb 0 rfl _).alloc _
        have hm3 : MapAt ((w1.setCell ⟨tb, 0, none⟩ (.map (some w1.heap.size))).alloc (.map #[] 0)) Tryz.prog 9 w1.heap.size (mapL []) := by have := MapAt.made (w1.setCell ⟨tb, 0, none⟩ (.map (some w1.heap.size))) Tryz.prog 9; rwa [show (w1.setCell ⟨tb, 0, none⟩ (.map (some w1.heap.size))).heap.size = w1.heap.size by simp [World.setCell]] at this
        have hx3 := x1.fr fS (by omega)
        have HY3 := Lib.hid (show By ((w1.setCell ⟨tb, 0, none⟩ (.map (some w1.heap.size))).alloc (.map #[] 0)) (fun _ => True) A l from (((HY.out.below hw1).not_map h1.blk).fr fS (fun b _ hz e => hz e)).mono (fun _ _ _ => trivial))
        have hfr3 := (Fr.of_below hw1 (fun g => g = tb ∨ (none : Option Nat) = some g)).trans fS (fun x _ e => .inl e)
        have hne3 : w1.heap.size ≠ tb := by omega
        have hbig : w.heap.size ≤ w1.heap.size := hsz
        have hok3 : ∀ x ∈ ([] : List (List UInt8 × LV)), OwB ((w1.setCell ⟨tb, 0, none⟩ (.map (some w1.heap.size))).alloc (.map #[] 0)) 0 (.slice x.2.x.A x.2.x.l.length x.2.x.c) x.2.x.l := by simp
        go_wp2_with fail
        clear q0 x1 f0 fS hmm c0
        generalize (w1.setCell ⟨tb, 0, none⟩ (.map (some w1.heap.size))).alloc (.map #[] 0) = w3 at *
        generalize hmbe : w1.heap.size = mb at *
        clear hmbe
        refine wp_region_m [true, true, true, true, true, true, false] (fun W => Below w3.heap.size w3 W) (by kernel_rfl) (by kernel_rfl) ?_
        simp only [List.length_cons, List.length_nil, Nat.zero_add, Nat.reduceAdd, List.take_succ_cons, List.take_zero, List.drop_succ_cons, List.drop_zero]
        refine mx_move _ (by kernel_rfl) rfl ⟨_, (by ((try simp [go_sem]); (try rfl); done)), _, (by (simp only [Act.put, List.setIfInBounds_toArray, List.set_cons_zero, List.set_cons_succ]; rfl)), ?_⟩
        refine mx_val (by kernel_rfl) ⟨_, (by (intro w' hC; clear hC; (try go_simp); (try with_reducible rfl); done)), _, (by (simp only [Act.put, List.setIfInBounds_toArray, List.set_cons_zero, List.set_cons_succ]; rfl)), ?_⟩
        refine mx_val (by kernel_rfl) ⟨_, (by (intro w' hC; clear hC; (try go_simp); (try with_reducible rfl); done)), _, (by (simp only [Act.put, List.setIfInBounds_toArray, List.set_cons_zero, List.set_cons_succ]; rfl)), ?_⟩
        refine mx_val (by kernel_rfl) ⟨_, (by (intro w' hC; (have q := (b3.below hC).cell 0; simp at q); clear hC; (try go_simp); (try with_reducible rfl); done)), _, (by (simp only [Act.put, List.setIfInBounds_toArray, List.set_cons_zero, List.set_cons_succ]; rfl)), ?_⟩
        refine mx_move _ (by kernel_rfl) rfl ⟨_, (by ((try simp [go_sem]); (try rfl); done)), _, (by (simp only [Act.put, List.setIfInBounds_toArray, List.set_cons_zero, List.set_cons_succ]; rfl)), ?_⟩
        refine mx_val (by kernel_rfl) ⟨_, (by (intro w' hC; (have q0 := (hx3.below hC).cell 0; have q1 := (hx3.below hC).cell 1; simp at q0 q1); clear hC; (try go_simp); (try with_reducible rfl); done)), _, (by (simp only [Act.put, List.setIfInBounds_toArray, List.set_cons_zero, List.set_cons_succ]; rfl)), ?_⟩
        refine mx_call ((Below.refl _ _).drew) (by kernel_rfl) ?_ (leafClone_any k A c l _ w3.drew (HY3.out.drew) hn) ?_
        · (go_simp; done)
        rintro e w4 ⟨A4, c4, l4, rfl, hl4, ho4, hb4⟩
        have hlow4 : Below w3.heap.size w3 w4 := (Below.refl _ _).drew.trans (hb4.mono (Nat.le_refl _))
        refine ⟨_, rfl, _, (by (simp only [Act.put, List.setIfInBounds_toArray, List.set_cons_zero, List.set_cons_succ]; rfl)), ?_⟩
        refine mx_end hlow4 ?_
        have b4 := b3.below hlow4
        have hml := HPL.out.len
        rw [HT3.out, show putR (plainL ([] : List (List UInt8 × LV))) p (k, l) = plainL (putR ([] : List (List UInt8 × LV)) p ⟨k, ⟨A4, c4, l4⟩⟩) by rw [plain_put]; show _ = putR (plainL ([] : List (List UInt8 × LV))) p (k, l4); rw [hl4.out]] at HPL
        have hlen3 : (mapL ([] : List (List UInt8 × LV))).length < maxLen := by
          have h5 := (HT.out.plain).len
          simp only [mapL, plainL, List.length_map] at h5 ⊢
          simp only [maxLen]
          omega
        obtain ⟨w5, hrun5, hm5, hg5, _⟩ := (hm3.below hlow4).store Tryz.underlying9 Tryz.underlying64 p (by simp only [maxLen]; omega) (.agg #[.int .i64 k, .slice A4 l4.length c4]) hlen3
        have hlt3 := hm3.lt
        have htb3 := b3.lt
        obtain ⟨A4', c4', e4, hlc4, hcm4, hA4⟩ := ho4.form
        obtain ⟨rfl, rfl⟩ : A4 = A4' ∧ c4 = c4' := by simpa using e4
        have hoo : OwB w4 0 (.slice A4 l4.length c4) l4 := own_base ho4 (fun _ _ => Nat.zero_le _)
        have HD := Lib.hid (TreeAt.stored (o := ⟨k, ⟨A4, c4, l4⟩⟩) b4 hm5 hg5 hne3 (hm3.below hlow4) (fun x hx => OwB.below (hok3 x hx) hlow4) hoo HPL.out)
        have HPP : Hid (plainL (putR ([] : List (List UInt8 × LV)) p ⟨k, ⟨A4, c4, l4⟩⟩) = T) := by show _ = _; rw [plain_put, HT3.out]; show putR (plainL ([] : List (List UInt8 × LV))) p (k, l4) = _; rw [hl4.out]
        have hfr5 := (hfr3.then_below hlow4)
        clear b4 hm5 hm3 hok3 hoo ho4 b3 hx3 HY3
        go_wp2_with fail
        go_ret
        refine ⟨rfl, ⟨some mb, _, HD.out, HPP, fun m e => by injection e with e; subst e; exact .inr hbig⟩, ?_⟩
        exact hfr5.trans (Fr.of_grown hg5 (S := fun g => some mb = some g) (fun k _ e => e)) (fun x hx e => by injection e with e; omega)
      · have b3 := h1.blk
        have hmn := fun W m => map_eq_nil W m
        have hne3 : mb ≠ tb := fun e => h1.ne (by rw [e])
        have hok3 := h1.own
        have hm3 := hm
        have hfr3 := Fr.of_below hw1 (fun g => g = tb ∨ (some mb : Option Nat) = some g)
        have hx3 := x1
        have HY3 := Lib.hid (show By w1 (fun _ => True) A l from (HY.out.below hw1).mono (fun _ _ _ => trivial))
        go_wp2_with fail
        clear q0 x1 c0 hm
        obtain ⟨w3, rfl⟩ : ∃ x : World, x = w1 := ⟨_, rfl⟩
        refine wp_region_m [true, true, true, true, true, true, false] (fun W => Below w3.heap.size w3 W) (by kernel_rfl) (by kernel_rfl) ?_
        simp only [List.length_cons, List.length_nil, Nat.zero_add, Nat.reduceAdd, List.take_succ_cons, List.take_zero, List.drop_succ_cons, List.drop_zero]
        refine mx_move _ (by kernel_rfl) rfl ⟨_, (by ((try simp [go_sem]); (try rfl); done)), _, (by (simp only [Act.put, List.setIfInBounds_toArray, List.set_cons_zero, List.set_cons_succ]; rfl)), ?_⟩
        refine mx_val (by kernel_rfl) ⟨_, (by (intro w' hC; clear hC; (try go_simp); (try with_reducible rfl); done)), _, (by (simp only [Act.put, List.setIfInBounds_toArray, List.set_cons_zero, List.set_cons_succ]; rfl)), ?_⟩
        refine mx_val (by kernel_rfl) ⟨_, (by (intro w' hC; clear hC; (try go_simp); (try with_reducible rfl); done)), _, (by (simp only [Act.put, List.setIfInBounds_toArray, List.set_cons_zero, List.set_cons_succ]; rfl)), ?_⟩
        refine mx_val (by kernel_rfl) ⟨_, (by (intro w' hC; (have q := (b3.below hC).cell 0; simp at q); clear hC; (try go_simp); (try with_reducible rfl); done)), _, (by (simp only [Act.put, List.setIfInBounds_toArray, List.set_cons_zero, List.set_cons_succ]; rfl)), ?_⟩
        refine mx_move _ (by kernel_rfl) rfl ⟨_, (by ((try simp [go_sem]); (try rfl); done)), _, (by (simp only [Act.put, List.setIfInBounds_toArray, List.set_cons_zero, List.set_cons_succ]; rfl)), ?_⟩
        refine mx_val (by kernel_rfl) ⟨_, (by (intro w' hC; (have q0 := (hx3.below hC).cell 0; have q1 := (hx3.below hC).cell 1; simp at q0 q1); clear hC; (try go_simp); (try with_reducible rfl); done)), _, (by (simp only [Act.put, List.setIfInBounds_toArray, List.set_cons_zero, List.set_cons_succ]; rfl)), ?_⟩
        refine mx_call ((Below.refl _ _).drew) (by kernel_rfl) ?_ (leafClone_any k A c l _ w3.drew (HY3.out.drew) hn) ?_
        · (go_simp; done)
        rintro e w4 ⟨A4, c4, l4, rfl, hl4, ho4, hb4⟩
        have hlow4 : Below w3.heap.size w3 w4 := (Below.refl _ _).drew.trans (hb4.mono (Nat.le_refl _))
        refine ⟨_, rfl, _, (by (simp only [Act.put, List.setIfInBounds_toArray, List.set_cons_zero, List.set_cons_succ]; rfl)), ?_⟩
        refine mx_end hlow4 ?_
        have b4 := b3.below hlow4
        have hml := HPL.out.len
        rw [HT3.out, show putR (plainL L) p (k, l) = plainL (putR L p ⟨k, ⟨A4, c4, l4⟩⟩) by rw [plain_put]; show _ = putR (plainL L) p (k, l4); rw [hl4.out]] at HPL
        have hlen3 : (mapL L).length < maxLen := by
          have h5 := (HT.out.plain).len
          simp only [mapL, plainL, List.length_map] at h5 ⊢
          simp only [maxLen]
          omega
        obtain ⟨w5, hrun5, hm5, hg5, _⟩ := (hm3.below hlow4).store Tryz.underlying9 Tryz.underlying64 p (by simp only [maxLen]; omega) (.agg #[.int .i64 k, .slice A4 l4.length c4]) hlen3
        have hlt3 := hm3.lt
        have htb3 := b3.lt
        obtain ⟨A4', c4', e4, hlc4, hcm4, hA4⟩ := ho4.form
        obtain ⟨rfl, rfl⟩ : A4 = A4' ∧ c4 = c4' := by simpa using e4
        have hoo : OwB w4 0 (.slice A4 l4.length c4) l4 := own_base ho4 (fun _ _ => Nat.zero_le _)
        have HD := Lib.hid (TreeAt.stored (o := ⟨k, ⟨A4, c4, l4⟩⟩) b4 hm5 hg5 hne3 (hm3.below hlow4) (fun x hx => OwB.below (hok3 x hx) hlow4) hoo HPL.out)
        have HPP : Hid (plainL (putR L p ⟨k, ⟨A4, c4, l4⟩⟩) = T) := by show _ = _; rw [plain_put, HT3.out]; show putR (plainL L) p (k, l4) = _; rw [hl4.out]
        have hfr5 := (hfr3.then_below hlow4)
        clear b4 hm5 hm3 hok3 hoo ho4 b3 hx3 HY3
        go_wp2_with fail
        go_ret
        refine ⟨rfl, ⟨some mb, _, HD.out, HPP, fun m e => by injection e with e; subst e; exact .inl rfl⟩, ?_⟩
        exact hfr5.trans (Fr.of_grown hg5 (S := fun g => some mb = some g) (fun k _ e => e)) (fun x hx e => by exact .inr e)
  · have hMb : (M != 0) = true := by simpa using hM0
    obtain rfl : T = plainL L := by rw [HTT.out, if_neg hM0]
    clear hM0 HM hpw
    go_wp2_with fail
    go_ret
    exact ⟨rfl, TreeTo.of HT.out hw1⟩

end Go.Proofs.YtjcfphdjgagimaaGreatDoor

/- tenderref08: Same. -/
namespace Go.Proofs.YtjcfphdjgagimaaGreatDoor
open Go.RowKit

theorem plain_snoc (L : List (List UInt8 × LV)) (i : Nat) (hi : i < L.length) : plainL (L.take (i + 1)) = plainL (L.take i) ++ [(L[i].1, L[i].2.p)] := by
  unfold plainL
  rw [List.take_succ_eq_append_getElem hi, List.map_append]
  rfl
theorem plain_get (L : List (List UInt8 × LV)) (i : Nat) (hi : i < L.length) : (plainL L)[i]? = some (L[i].1, L[i].2.p) := by
  unfold plainL
  rw [List.getElem?_map, List.getElem?_eq_getElem hi]
  rfl
theorem plain_len (L : List (List UInt8 × LV)) : (plainL L).length = L.length := by simp [plainL]

set_option maxRecDepth 100000 in
set_option maxHeartbeats 1000000 in
theorem refSame08_any (A B : Option Addr) (c d : Nat) (L M : List (List UInt8 × LV)) (w : World) (h : Its w A L) (h' : Its w B M) :
    Calls Tryz.prog 14 #[.slice A L.length c, .slice B M.length d] w fun e w' => e = .returned (.bool (decide (plainL L = plainL M))) ∧ Below w.heap.size w w' := by
  obtain ⟨R, hR⟩ : ∃ R, R = decide (plainL L = plainL M) := ⟨_, rfl⟩
  rw [← hR]
  have HR := Lib.hid hR
  have HL := Lib.hid h
  have HM := Lib.hid h'
  have hlen := h.len
  clear h h' hR
  by_cases hn : L.length = M.length
  · have HN := Lib.hid hn
    have hlm := HM.out.len
    go_enter Tryz.func14, Tryz.ntmps14
    go_wp2_with fail
    go_loopw [5] (fun iv wr => ∃ i : Nat, i ≤ L.length ∧ iv = .int .i64 (i : Int) ∧ Hid (plainL (L.take i) = plainL (M.take i)) ∧ Below w.heap.size w wr) (fun iv _ => L.length - (intOf iv).toNat)
    case atStart => exact ⟨0, Nat.zero_le _, rfl, rfl, Below.refl _ _⟩
    case round =>
      obtain ⟨i, hi, rfl, hz, hb⟩ := hrel
      by_cases hlt : i < L.length
      · have hltm : i < M.length := by omega
        obtain ⟨b, off, hA, hb1, c0, c1, c2⟩ := (HL.out.below hb).at_ hlt
        obtain ⟨b2, off2, hB, hb2, d0, d1, d2⟩ := (HM.out.below hb).at_ hltm
        subst hA
        subst hB
        have hx2 := Lib.hid ((HL.out.below hb).ok _ (List.getElem_mem hlt))
        have hy2 := Lib.hid ((HM.out.below hb).ok _ (List.getElem_mem hltm))
        have hs1 := Lib.hid (plain_snoc L i hlt)
        have hs2 := Lib.hid (plain_snoc M i hltm)
        have hg1 := Lib.hid (plain_get L i hlt)
        have hg2 := Lib.hid (plain_get M i hltm)
        generalize L[i] = x at *
        generalize M[i] = y at *
        simp only [stv] at c0 d0
        have hq := Lib.hid hb
        by_cases hxy : x.1 = y.1
        · rw [hxy] at c0
          go_wp2_with fail
          refine wp_region_m [true, true, true, true, true, true, true, true, true, true, true, true, true, true, true, true, true, true, true, true, true, true, false, true, true] (fun W => Below wr.heap.size wr W) (by kernel_rfl) (by kernel_rfl) ?_
          simp only [List.length_cons, List.length_nil, Nat.zero_add, Nat.reduceAdd, List.take_succ_cons, List.take_zero, List.drop_succ_cons, List.drop_zero]
          refine mx_move _ (by kernel_rfl) rfl ⟨_, (by ((try simp [go_sem]); (try rfl); done)), _, (by (simp only [Act.put, List.setIfInBounds_toArray, List.set_cons_zero, List.set_cons_succ]; rfl)), ?_⟩
          refine mx_move _ (by kernel_rfl) rfl ⟨_, (by ((try simp [go_sem]); (try rfl); done)), _, (by (simp only [Act.put, List.setIfInBounds_toArray, List.set_cons_zero, List.set_cons_succ]; rfl)), ?_⟩
          refine mx_val (by kernel_rfl) ⟨_, (by (intro w' hC; clear hC; (try go_simp); (try with_reducible rfl); done)), _, (by (simp only [Act.put, List.setIfInBounds_toArray, List.set_cons_zero, List.set_cons_succ]; rfl)), ?_⟩
          refine mx_val (by kernel_rfl) ⟨_, (by (intro w' hC; clear hC; (try go_simp); (try with_reducible rfl); done)), _, (by (simp only [Act.put, List.setIfInBounds_toArray, List.set_cons_zero, List.set_cons_succ]; rfl)), ?_⟩
          refine mx_val (by kernel_rfl) ⟨_, (by (intro w' hC; (have q := cellAt hC hb1 c0); clear hC; (try go_simp); (try with_reducible rfl); done)), _, (by (simp only [Act.put, List.setIfInBounds_toArray, List.set_cons_zero, List.set_cons_succ]; rfl)), ?_⟩
          refine mx_move _ (by kernel_rfl) rfl ⟨_, (by ((try simp [go_sem]); (try rfl); done)), _, (by (simp only [Act.put, List.setIfInBounds_toArray, List.set_cons_zero, List.set_cons_succ]; rfl)), ?_⟩
          refine mx_move _ (by kernel_rfl) rfl ⟨_, (by ((try simp [go_sem]); (try rfl); done)), _, (by (simp only [Act.put, List.setIfInBounds_toArray, List.set_cons_zero, List.set_cons_succ]; rfl)), ?_⟩
          refine mx_val (by kernel_rfl) ⟨_, (by (intro w' hC; clear hC; (try go_simp); (try with_reducible rfl); done)), _, (by (simp only [Act.put, List.setIfInBounds_toArray, List.set_cons_zero, List.set_cons_succ]; rfl)), ?_⟩
          refine mx_val (by kernel_rfl) ⟨_, (by (intro w' hC; clear hC; (try go_simp); (try with_reducible rfl); done)), _, (by (simp only [Act.put, List.setIfInBounds_toArray, List.set_cons_zero, List.set_cons_succ]; rfl)), ?_⟩
          refine mx_val (by kernel_rfl) ⟨_, (by (intro w' hC; (have q := cellAt hC hb2 d0); clear hC; (try go_simp); (try with_reducible rfl); done)), _, (by (simp only [Act.put, List.setIfInBounds_toArray, List.set_cons_zero, List.set_cons_succ]; rfl)), ?_⟩
          refine mx_val (by kernel_rfl) ⟨_, (by (intro w' hC; clear hC; (try go_simp); (try with_reducible rfl); done)), _, (by (simp only [Act.put, List.setIfInBounds_toArray, List.set_cons_zero, List.set_cons_succ]; rfl)), ?_⟩
          refine mx_move _ (by kernel_rfl) rfl ⟨_, (by ((try simp [go_sem]); (try rfl); done)), _, (by (simp only [Act.put, List.setIfInBounds_toArray, List.set_cons_zero, List.set_cons_succ]; rfl)), ?_⟩
          refine mx_move _ (by kernel_rfl) rfl ⟨_, (by ((try simp [go_sem]); (try rfl); done)), _, (by (simp only [Act.put, List.setIfInBounds_toArray, List.set_cons_zero, List.set_cons_succ]; rfl)), ?_⟩
          refine mx_move _ (by kernel_rfl) rfl ⟨_, (by ((try simp [go_sem]); (try rfl); done)), _, (by (simp only [Act.put, List.setIfInBounds_toArray, List.set_cons_zero, List.set_cons_succ]; rfl)), ?_⟩
          refine mx_val (by kernel_rfl) ⟨_, (by (intro w' hC; clear hC; (try go_simp); (try with_reducible rfl); done)), _, (by (simp only [Act.put, List.setIfInBounds_toArray, List.set_cons_zero, List.set_cons_succ]; rfl)), ?_⟩
          refine mx_val (by kernel_rfl) ⟨_, (by (intro w' hC; clear hC; (try go_simp); (try with_reducible rfl); done)), _, (by (simp only [Act.put, List.setIfInBounds_toArray, List.set_cons_zero, List.set_cons_succ]; rfl)), ?_⟩
          refine mx_val (by kernel_rfl) ⟨_, (by (intro w' hC; (have q0 := cellAt hC hb1 c1; have q1 := cellAt hC hb1 c2; rw [show off + i * 3 + 2 = off + i * 3 + 1 + 1 from rfl] at q1); clear hC; (try go_simp); (try with_reducible rfl); done)), _, (by (simp only [Act.put, List.setIfInBounds_toArray, List.set_cons_zero, List.set_cons_succ]; rfl)), ?_⟩
          refine mx_move _ (by kernel_rfl) rfl ⟨_, (by ((try simp [go_sem]); (try rfl); done)), _, (by (simp only [Act.put, List.setIfInBounds_toArray, List.set_cons_zero, List.set_cons_succ]; rfl)), ?_⟩
          refine mx_move _ (by kernel_rfl) rfl ⟨_, (by ((try simp [go_sem]); (try rfl); done)), _, (by (simp only [Act.put, List.setIfInBounds_toArray, List.set_cons_zero, List.set_cons_succ]; rfl)), ?_⟩
          refine mx_val (by kernel_rfl) ⟨_, (by (intro w' hC; clear hC; (try go_simp); (try with_reducible rfl); done)), _, (by (simp only [Act.put, List.setIfInBounds_toArray, List.set_cons_zero, List.set_cons_succ]; rfl)), ?_⟩
          refine mx_val (by kernel_rfl) ⟨_, (by (intro w' hC; clear hC; (try go_simp); (try with_reducible rfl); done)), _, (by (simp only [Act.put, List.setIfInBounds_toArray, List.set_cons_zero, List.set_cons_succ]; rfl)), ?_⟩
          refine mx_val (by kernel_rfl) ⟨_, (by (intro w' hC; (have q0 := cellAt hC hb2 d1; have q1 := cellAt hC hb2 d2; rw [show off2 + i * 3 + 2 = off2 + i * 3 + 1 + 1 from rfl] at q1); clear hC; (try go_simp); (try with_reducible rfl); done)), _, (by (simp only [Act.put, List.setIfInBounds_toArray, List.set_cons_zero, List.set_cons_succ]; rfl)), ?_⟩
          refine mx_call ((Below.refl _ _).drew) (by kernel_rfl) ?_ (leafSameR_any x.2.k y.2.k x.2.x.A y.2.x.A x.2.x.c y.2.x.c x.2.x.l y.2.x.l _ _ wr.drew hx2.out.1.drew hy2.out.1.drew) ?_
          · (go_simp; done)
          rintro e w2 ⟨rfl, hb3⟩
          generalize hsm : (x.2.k == y.2.k && x.2.x.l == y.2.x.l) = sm
          have hlow : Below wr.heap.size wr w2 := (Below.refl _ _).drew.trans (hb3.mono (Nat.le_refl _))
          refine ⟨_, rfl, _, (by (simp only [Act.put, List.setIfInBounds_toArray, List.set_cons_zero, List.set_cons_succ]; rfl)), ?_⟩
          refine mx_val (by kernel_rfl) ⟨_, (by (intro w' hC; clear hC; (try go_simp); (try with_reducible rfl); done)), _, (by (simp only [Act.put, List.setIfInBounds_toArray, List.set_cons_zero, List.set_cons_succ]; rfl)), ?_⟩
          refine mx_val (by kernel_rfl) ⟨_, (by (intro w' hC; clear hC; (try go_simp); (try with_reducible rfl); done)), _, (by (simp only [Act.put, List.setIfInBounds_toArray, List.set_cons_zero, List.set_cons_succ]; rfl)), ?_⟩
          refine mx_end hlow ?_
          have hw2 := hb.trans (hlow.mono hb.size)
          cases sm
          · obtain rfl : R = false := by
              rw [HR.out, decide_eq_false_iff_not]
              intro e
              have e2 := hg1.out
              rw [e, hg2.out] at e2
              injection e2 with e2
              injection e2 with _ e2
              rw [show x.2.k = y.2.k from (congrArg Prod.fst e2).symm, show x.2.x.l = y.2.x.l from (congrArg Prod.snd e2).symm] at hsm
              simp at hsm
            clear c0 c1 c2 d0 d1 d2
            go_wp2_with fail
            go_ret
            exact ⟨rfl, hw2⟩
          · have HN2 : Hid (plainL (L.take (i + 1)) = plainL (M.take (i + 1))) := by
              show _ = _
              simp only [Bool.and_eq_true, beq_iff_eq] at hsm
              rw [hs1.out, hs2.out, hz.out, hxy]
              unfold LV.p
              rw [hsm.1, hsm.2]
            clear c0 c1 c2 d0 d1 d2
            go_wp2_with fail
            go_roundw
            case rel => exact ⟨i + 1, hlt, by go_num, HN2, hw2⟩
            case measure => simp [intOf]; omega
        · have hne : (x.1 != y.1) = true := by simpa using hxy
          have hne1 : (x.1 == y.1) = false := by simpa using hxy
          obtain rfl : R = false := by
            rw [HR.out, decide_eq_false_iff_not]
            intro e
            have e2 := hg1.out
            rw [e, hg2.out] at e2
            injection e2 with e2
            injection e2 with e2 _
            exact hxy e2.symm
          go_wp2_with fail
          refine wp_region_m [true, true, true, true, true, true, true, true, true, true, true, true, true, true, true, true, true, true, true, true, true, true, false, true, true] (fun W => Below wr.heap.size wr W) (by kernel_rfl) (by kernel_rfl) ?_
          simp only [List.length_cons, List.length_nil, Nat.zero_add, Nat.reduceAdd, List.take_succ_cons, List.take_zero, List.drop_succ_cons, List.drop_zero]
          refine mx_move _ (by kernel_rfl) rfl ⟨_, (by ((try simp [go_sem]); (try rfl); done)), _, (by (simp only [Act.put, List.setIfInBounds_toArray, List.set_cons_zero, List.set_cons_succ]; rfl)), ?_⟩
          refine mx_move _ (by kernel_rfl) rfl ⟨_, (by ((try simp [go_sem]); (try rfl); done)), _, (by (simp only [Act.put, List.setIfInBounds_toArray, List.set_cons_zero, List.set_cons_succ]; rfl)), ?_⟩
          refine mx_val (by kernel_rfl) ⟨_, (by (intro w' hC; clear hC; (try go_simp); (try with_reducible rfl); done)), _, (by (simp only [Act.put, List.setIfInBounds_toArray, List.set_cons_zero, List.set_cons_succ]; rfl)), ?_⟩
          refine mx_val (by kernel_rfl) ⟨_, (by (intro w' hC; clear hC; (try go_simp); (try with_reducible rfl); done)), _, (by (simp only [Act.put, List.setIfInBounds_toArray, List.set_cons_zero, List.set_cons_succ]; rfl)), ?_⟩
          refine mx_val (by kernel_rfl) ⟨_, (by (intro w' hC; (have q := cellAt hC hb1 c0); clear hC; (try go_simp); (try with_reducible rfl); done)), _, (by (simp only [Act.put, List.setIfInBounds_toArray, List.set_cons_zero, List.set_cons_succ]; rfl)), ?_⟩
          refine mx_move _ (by kernel_rfl) rfl ⟨_, (by ((try simp [go_sem]); (try rfl); done)), _, (by (simp only [Act.put, List.setIfInBounds_toArray, List.set_cons_zero, List.set_cons_succ]; rfl)), ?_⟩
          refine mx_move _ (by kernel_rfl) rfl ⟨_, (by ((try simp [go_sem]); (try rfl); done)), _, (by (simp only [Act.put, List.setIfInBounds_toArray, List.set_cons_zero, List.set_cons_succ]; rfl)), ?_⟩
          refine mx_val (by kernel_rfl) ⟨_, (by (intro w' hC; clear hC; (try go_simp); (try with_reducible rfl); done)), _, (by (simp only [Act.put, List.setIfInBounds_toArray, List.set_cons_zero, List.set_cons_succ]; rfl)), ?_⟩
          refine mx_val (by kernel_rfl) ⟨_, (by (intro w' hC; clear hC; (try go_simp); (try with_reducible rfl); done)), _, (by (simp only [Act.put, List.setIfInBounds_toArray, List.set_cons_zero, List.set_cons_succ]; rfl)), ?_⟩
          refine mx_val (by kernel_rfl) ⟨_, (by (intro w' hC; (have q := cellAt hC hb2 d0); clear hC; (try go_simp); (try with_reducible rfl); done)), _, (by (simp only [Act.put, List.setIfInBounds_toArray, List.set_cons_zero, List.set_cons_succ]; rfl)), ?_⟩
          refine mx_val (by kernel_rfl) ⟨_, (by (intro w' hC; (have q := hne); clear hC; (try go_simp); (try with_reducible rfl); done)), _, (by (simp only [Act.put, List.setIfInBounds_toArray, List.set_cons_zero, List.set_cons_succ]; rfl)), ?_⟩
          refine mx_move _ (by kernel_rfl) rfl ⟨_, (by ((try simp [go_sem]); (try rfl); done)), _, (by (simp only [Act.put, List.setIfInBounds_toArray, List.set_cons_zero, List.set_cons_succ]; rfl)), ?_⟩
          first | (refine mx_skip (by rfl) ⟨_, (by (simp only [Act.put, List.setIfInBounds_toArray, List.set_cons_zero, List.set_cons_succ]; rfl)), ?_⟩) | (refine mx_move _ (by kernel_rfl) rfl ⟨_, (by ((try simp [go_sem]); (try rfl); done)), _, (by (simp only [Act.put, List.setIfInBounds_toArray, List.set_cons_zero, List.set_cons_succ]; rfl)), ?_⟩)
          first | (refine mx_skip (by rfl) ⟨_, (by (simp only [Act.put, List.setIfInBounds_toArray, List.set_cons_zero, List.set_cons_succ]; rfl)), ?_⟩) | (refine mx_move _ (by kernel_rfl) rfl ⟨_, (by ((try simp [go_sem]); (try rfl); done)), _, (by (simp only [Act.put, List.setIfInBounds_toArray, List.set_cons_zero, List.set_cons_succ]; rfl)), ?_⟩)
          first | (refine mx_skip (by rfl) ⟨_, (by (simp only [Act.put, List.setIfInBounds_toArray, List.set_cons_zero, List.set_cons_succ]; rfl)), ?_⟩) | (refine mx_val (by kernel_rfl) ⟨_, (by (intro w' hC; clear hC; (try go_simp); (try with_reducible rfl); done)), _, (by (simp only [Act.put, List.setIfInBounds_toArray, List.set_cons_zero, List.set_cons_succ]; rfl)), ?_⟩)
          first | (refine mx_skip (by rfl) ⟨_, (by (simp only [Act.put, List.setIfInBounds_toArray, List.set_cons_zero, List.set_cons_succ]; rfl)), ?_⟩) | (refine mx_val (by kernel_rfl) ⟨_, (by (intro w' hC; clear hC; (try go_simp); (try with_reducible rfl); done)), _, (by (simp only [Act.put, List.setIfInBounds_toArray, List.set_cons_zero, List.set_cons_succ]; rfl)), ?_⟩)
          first | (refine mx_skip (by rfl) ⟨_, (by (simp only [Act.put, List.setIfInBounds_toArray, List.set_cons_zero, List.set_cons_succ]; rfl)), ?_⟩) | (refine mx_val (by kernel_rfl) ⟨_, (by (intro w' hC; skip; clear hC; (try go_simp); (try with_reducible rfl); done)), _, (by (simp only [Act.put, List.setIfInBounds_toArray, List.set_cons_zero, List.set_cons_succ]; rfl)), ?_⟩)
          first | (refine mx_skip (by rfl) ⟨_, (by (simp only [Act.put, List.setIfInBounds_toArray, List.set_cons_zero, List.set_cons_succ]; rfl)), ?_⟩) | (refine mx_move _ (by kernel_rfl) rfl ⟨_, (by ((try simp [go_sem]); (try rfl); done)), _, (by (simp only [Act.put, List.setIfInBounds_toArray, List.set_cons_zero, List.set_cons_succ]; rfl)), ?_⟩)
          first | (refine mx_skip (by rfl) ⟨_, (by (simp only [Act.put, List.setIfInBounds_toArray, List.set_cons_zero, List.set_cons_succ]; rfl)), ?_⟩) | (refine mx_move _ (by kernel_rfl) rfl ⟨_, (by ((try simp [go_sem]); (try rfl); done)), _, (by (simp only [Act.put, List.setIfInBounds_toArray, List.set_cons_zero, List.set_cons_succ]; rfl)), ?_⟩)
          first | (refine mx_skip (by rfl) ⟨_, (by (simp only [Act.put, List.setIfInBounds_toArray, List.set_cons_zero, List.set_cons_succ]; rfl)), ?_⟩) | (refine mx_val (by kernel_rfl) ⟨_, (by (intro w' hC; clear hC; (try go_simp); (try with_reducible rfl); done)), _, (by (simp only [Act.put, List.setIfInBounds_toArray, List.set_cons_zero, List.set_cons_succ]; rfl)), ?_⟩)
          first | (refine mx_skip (by rfl) ⟨_, (by (simp only [Act.put, List.setIfInBounds_toArray, List.set_cons_zero, List.set_cons_succ]; rfl)), ?_⟩) | (refine mx_val (by kernel_rfl) ⟨_, (by (intro w' hC; clear hC; (try go_simp); (try with_reducible rfl); done)), _, (by (simp only [Act.put, List.setIfInBounds_toArray, List.set_cons_zero, List.set_cons_succ]; rfl)), ?_⟩)
          first | (refine mx_skip (by rfl) ⟨_, (by (simp only [Act.put, List.setIfInBounds_toArray, List.set_cons_zero, List.set_cons_succ]; rfl)), ?_⟩) | (refine mx_val (by kernel_rfl) ⟨_, (by (intro w' hC; skip; clear hC; (try go_simp); (try with_reducible rfl); done)), _, (by (simp only [Act.put, List.setIfInBounds_toArray, List.set_cons_zero, List.set_cons_succ]; rfl)), ?_⟩)
          first | (refine mx_idle ((Below.refl _ _).drew) (by rfl) ⟨_, (by (simp only [Act.put, List.setIfInBounds_toArray, List.set_cons_zero, List.set_cons_succ]; rfl)), ?_⟩) | (refine mx_alone ((Below.refl _ _).drew) (by kernel_rfl) ⟨_, _, (by (go_simp; first | done | exact ⟨rfl, rfl⟩)), _, (by (simp only [Act.put, List.setIfInBounds_toArray, List.set_cons_zero, List.set_cons_succ]; rfl)), ?_⟩)
          first | (refine mx_skip (by rfl) ⟨_, (by (simp only [Act.put, List.setIfInBounds_toArray, List.set_cons_zero, List.set_cons_succ]; rfl)), ?_⟩) | (refine mx_val (by kernel_rfl) ⟨_, (by (intro w' hC; clear hC; (try go_simp); (try with_reducible rfl); done)), _, (by (simp only [Act.put, List.setIfInBounds_toArray, List.set_cons_zero, List.set_cons_succ]; rfl)), ?_⟩)
          refine mx_val (by kernel_rfl) ⟨_, (by (intro w' hC; clear hC; (try go_simp); (try with_reducible rfl); done)), _, (by (simp only [Act.put, List.setIfInBounds_toArray, List.set_cons_zero, List.set_cons_succ]; rfl)), ?_⟩
          refine mx_end (Below.refl _ _).drew ?_
          clear c0 c1 c2 d0 d1 d2
          go_wp2_with fail
          go_ret
          exact ⟨rfl, hb.drew⟩
      · have e : i = L.length := by omega
        subst e
        obtain rfl : R = true := by
          rw [HR.out, decide_eq_true_eq]
          have := hz.out
          rw [List.take_length, HN.out, List.take_length] at this
          exact this
        clear hz
        go_wp2_with fail
        go_ret
        exact ⟨rfl, hb⟩
  · obtain rfl : R = false := by
      rw [HR.out, decide_eq_false_iff_not]
      intro e
      have := congrArg List.length e
      rw [plain_len, plain_len] at this
      exact hn this
    have hne : ((L.length : Int) != (M.length : Int)) = true := by simp; omega
    have hlm := HM.out.len
    go_enter Tryz.func14, Tryz.ntmps14
    go_wp2_with fail
    go_ret
    exact ⟨rfl, Below.refl _ _⟩
end Go.Proofs.YtjcfphdjgagimaaGreatDoor

/- A region in the text's order whose operations each yield ONE value and at most make memory (ClassF's steps without a drawn order). No program. -/
namespace Go.Proofs.YtjcfphdjgagimaaGreatDoor
open Go.RowKit

section
variable {P : Program} {ops : Array Oper} {W : World} {Q : Exit → Act → World → Prop} {Lq : Act → Prop}
end
end Go.Proofs.YtjcfphdjgagimaaGreatDoor

/- tenderref08: Diff. -/
namespace Go.Proofs.YtjcfphdjgagimaaGreatDoor
open Go.RowKit

end Go.Proofs.YtjcfphdjgagimaaGreatDoor

/- tree.Tree: Items, Size. -/
namespace Go.Proofs.YtjcfphdjgagimaaGreatDoor
open Go.RowKit

/-- rows of unlike things lie apart -/
theorem own_apart {w : World} {base base' : Nat} {e e' : TypeId} {s s' n n' : Nat} {v v' : Value} {xs xs' : List Value} (h : w.ownsRow base e s v n xs) (h' : w.ownsRow base' e' s' v' n' xs') (hne : e ≠ e') : ∀ g, v.ownBlock = some g → v'.ownBlock ≠ some g := by
  rcases h.2 with ⟨rfl, _⟩ | ⟨g', cap, cur, rfl, _, hh, _⟩
  · simp [Value.ownBlock]
  · intro g he
    have e1 : g' = g := by simpa [Value.ownBlock] using he
    subst e1
    have hb : Blk w g' e _ := hh
    exact Blk.own_ne hb h' (fun e => hne e.symm)
/-- items, each of the call's own, bytes and all -/
structure ItsOwn (w : World) (base : Nat) (A : Option Addr) (c : Nat) (M : List (List UInt8 × LV)) : Prop where
  row : OwI w base A c M
  byt : ∀ x ∈ M, OwB w base (.slice x.2.x.A x.2.x.l.length x.2.x.c) x.2.x.l
theorem ItsOwn.below {w w' : World} {base : Nat} {A : Option Addr} {c : Nat} {M : List (List UInt8 × LV)} (h : ItsOwn w base A c M) (k : Below w.heap.size w w') : ItsOwn w' base A c M := ⟨h.row.below k, fun x hx => own_below (h.byt x hx) k⟩
theorem ItsOwn.base {w : World} {base base' : Nat} {A : Option Addr} {c : Nat} {M : List (List UInt8 × LV)} (h : ItsOwn w base A c M) (hb : base' ≤ base) : ItsOwn w base' A c M :=
  ⟨own_base h.row (fun g hg => Nat.le_trans hb (h.row.lt g hg).1), fun x hx => own_base (h.byt x hx) (fun g hg => Nat.le_trans hb ((h.byt x hx).lt g hg).1)⟩
theorem ItsOwn.its {w : World} {base : Nat} {A : Option Addr} {c : Nat} {M : List (List UInt8 × LV)} (h : ItsOwn w base A c M) (hl : M.length ≤ 1099511627776) (ht : ∀ x ∈ M, x.1.length ≤ 1048576 ∧ x.2.x.l.length ≤ 140737488355328) : Its w A M :=
  h.row.its (fun x hx => by
    obtain ⟨A', c', e, h1, h2, _⟩ := own_form (h.byt x hx)
    injection e with e1 e2 e3
    subst e1 e3
    exact ⟨(h.byt x hx).rd.mono (fun _ _ _ => trivial), h1, h2⟩) hl ht
theorem ItsOwn.push {w w' : World} {base : Nat} {A A' : Option Addr} {c c' : Nat} {M : List (List UInt8 × LV)} {y : List UInt8 × LV} (h : ItsOwn w base A c M) (hy : OwB w base (.slice y.2.x.A y.2.x.l.length y.2.x.c) y.2.x.l) (hr : OwI w' base A' c' (M ++ [y])) (hb : Below base w w')
    (hk : ∀ k, k < w.heap.size → (Value.slice A M.length c).ownBlock ≠ some k → w'.heap[k]? = w.heap[k]?) : ItsOwn w' base A' c' (M ++ [y]) := by
  have hf : Fr (fun k => (Value.slice A M.length c).ownBlock = some k) w w' := ⟨hb.os, hb.tape, hb.output, hb.size, hk⟩
  refine ⟨hr, fun x hx => ?_⟩
  rcases List.mem_append.1 hx with hx | hx
  · exact own_fr (h.byt x hx) hf (own_apart (h.byt x hx) h.row (by decide))
  · rw [List.mem_singleton.1 hx]
    exact own_fr hy hf (own_apart hy h.row (by decide))
theorem plain_app (L M : List (List UInt8 × LV)) : plainL (L ++ M) = plainL L ++ plainL M := by simp [plainL]

theorem txt_at {w : World} {base : Nat} {A : Option Addr} {c : Nat} {l : List (List UInt8)} (h : w.ownsRow base 9 1 (.slice A l.length c) l.length (l.map stv)) {i : Nat} (hi : i < l.length) :
    ∃ b off, A = some ⟨b, off, none⟩ ∧ b < w.heap.size ∧ w.cell? ⟨b, off + i, none⟩ = some (stv l[i]) := by
  have hr : Rd w (fun _ => True) 1 A l.length (l.map stv) := Rd.of_own h (fun _ _ _ => trivial)
  obtain ⟨b, off, hA, _, hb, hc⟩ := hr.2 (by omega)
  exact ⟨b, off, hA, hb, hc i _ (by rw [List.getElem?_map, List.getElem?_eq_getElem hi]; rfl)⟩
set_option maxRecDepth 100000 in
set_option maxHeartbeats 1000000 in
theorem treeItems_any (hS : SortsT) (tb : Nat) (mo : Option Nat) (L : List (List UInt8 × LV)) (w : World) (h : TreeAt w tb mo L) :
    Calls Tryz.prog 15 #[.pointer (some ⟨tb, 0, none⟩)] w fun e w' => ∃ (A : Option Addr) (c : Nat) (M : List (List UInt8 × LV)), e = .returned (.slice A M.length c) ∧ Hid (plainL M = plainL L) ∧ ItsOwn w' w.heap.size A c M ∧ Below w.heap.size w w' := by
  have HT := Lib.hid h
  have hlen : L.length ≤ 128 := by have := h.plain.len; rwa [plain_len] at this
  have hsort : SortR L := (sort_map LV.p).1 h.plain.sort
  have hkl : ∀ q ∈ keysR L, q.length ≤ 96 := fun q hq => by
    obtain ⟨x, hx, rfl⟩ := List.mem_map.1 hq
    exact goodB_len (h.small hx).2.1
  have HP := Lib.hid (treeall_any hS tb mo L w h)
  clear h
  go_enter Tryz.func15, Tryz.ntmps15
  go_wp2_with fail
  refine HP.out.mono ?_
  rintro e w1 ⟨⟨A1, c1, l, rfl, hl, ho⟩, hb1⟩
  have hT1 := Lib.hid (HT.out.below hb1)
  have hll : l.length = L.length := by rw [hl.out, keys_len]
  have hs1 := hb1.size
  have HLL := Lib.hid hll
  clear HP HT hll
  go_wp2_with fail
  go_loopw [2, 8] (fun ov iv wr => ∃ (i : Nat) (A : Option Addr) (c : Nat) (M : List (List UInt8 × LV)), i ≤ l.length ∧ iv = .int .i64 (i : Int) ∧ ov = .slice A M.length c ∧ Hid (plainL M = plainL (L.take i)) ∧ M.length = i ∧ ItsOwn wr w1.heap.size A c M ∧ Below w1.heap.size w1 wr) (fun _ iv _ => l.length - (intOf iv).toNat)
  case atStart => exact ⟨0, none, 0, [], Nat.zero_le _, rfl, rfl, rfl, rfl, ⟨World.ownsRow_nil _ _ _ _, by simp⟩, Below.refl _ _⟩
  case round =>
    obtain ⟨i, A, c, M, hi, rfl, rfl, hM, hMi, hO, hb⟩ := hrel
    by_cases hlt : i < l.length
    · have hltL : i < L.length := by rw [← HLL.out]; exact hlt
      obtain ⟨b, off, hA, hbb, c0⟩ := txt_at ho hlt
      have hli : l[i] = L[i].1 := by
        have := hl.out
        subst this
        simp [keysR]
      rw [hli] at c0
      have hps := plain_snoc L i hltL
      have hget := hsort.get (List.getElem_mem hltL)
      have hpl : L[i].1.length ≤ 96 := hkl _ (List.mem_map.2 ⟨_, List.getElem_mem hltL, rfl⟩)
      subst hA
      obtain ⟨x, hx⟩ : ∃ x, x = L[i] := ⟨_, rfl⟩
      rw [← hx] at c0 hps hget hpl
      simp only [stv] at c0
      have hT2 := hT1.out.below hb
      have c0' := cellAt hb hbb c0
      have HPS := Lib.hid hps
      have HG := Lib.hid (treeGet_any tb mo L x.1 wr hT2 (by omega))
      rw [hget] at HG
      have hMe := Lib.hid hMi
      clear hps hget hx hli hT2 c0
      go_wp2_with fail
      refine HG.out.mono ?_
      rintro e w2 ⟨⟨A2, c2, l2, he, hl2, ho2⟩, hb2⟩
      obtain rfl : e = .returned (.agg #[.int .i64 x.2.k, .slice A2 l2.length c2]) := he
      have hl3 : l2 = x.2.x.l := hl2.out
      obtain ⟨y, hy⟩ : ∃ y : List UInt8 × LV, y = (x.1, ⟨x.2.k, ⟨A2, c2, l2⟩⟩) := ⟨_, rfl⟩
      have hw2 := hb.trans (hb2.mono hb.size)
      have ho3 : OwB w2 w1.heap.size (.slice y.2.x.A y.2.x.l.length y.2.x.c) y.2.x.l := by
        rw [hy]
        exact own_base ho2 (fun g hg => Nat.le_trans hb.size (ho2.lt g hg).1)
      have hpy : plainL [y] = [(x.1, x.2.p)] := by rw [hy]; show [(x.1, (x.2.k, l2))] = _; rw [hl3]; rfl
      have hba : Below w1.heap.size w1 (w2.alloc (.cells #[.string ⟨⟨x.1⟩⟩, .int .i64 x.2.k, .slice A2 l2.length c2] 48)) := hw2.alloc hw2.size _
      have hal : Below w2.heap.size w2 (w2.alloc (.cells #[.string ⟨⟨x.1⟩⟩, .int .i64 x.2.k, .slice A2 l2.length c2] 48)) := (Below.refl _ w2).alloc (Nat.le_refl _) _
      have hO3 := Lib.hid ((hO.below hb2).below hal)
      have ho4 := Lib.hid (own_below ho3 hal)
      have ra : Hid (Rd (w2.alloc (.cells #[.string ⟨⟨x.1⟩⟩, .int .i64 x.2.k, .slice A2 l2.length c2] 48)) (fun _ => True) 3 (some ⟨w2.heap.size, 0, none⟩) 1 (itemC y)) := (Rd.lit (w := w2) (t := 48) (size := 3) (n := 1) (xs := itemC y) (by rw [hy]; rfl) rfl rfl).mono (fun _ _ _ => trivial)
      have HN : Hid (plainL (M ++ [y]) = plainL (L.take (i + 1))) := by
        show _ = _
        rw [plain_app, hpy, HPS.out, hM.out]
      have hlb := Lib.hid (show M.length + 1 ≤ 1099511627776 by omega)
      clear hO ho2 ho3 hal hb2 hl2 hl3 hy hpy HPS HG hM hb c0' hMi
      go_wp2_with (at_builtin; refine wpList_append_item rfl (.tmp 12) (.tmp 18) (t := 22) rfl rfl rfl hO3.out.row rfl ra.out hlb.out hba.size ?_; intro A5 c5 w5 ho5 hb5 hk5)
      have hb6 := hba.trans hb5
      have hO5 := hO3.out.push ho4.out ho5 hb5 hk5
      have hl5 : (M ++ [y]).length = i + 1 := by rw [List.length_append, hMe.out]; rfl
      go_roundw
      case rel => exact ⟨i + 1, A5, c5, M ++ [y], hlt, by go_num, by simp, HN, hl5, hO5, hb6⟩
      case measure => simp [intOf]; omega
    · have e : i = l.length := by omega
      subst e
      have HN : Hid (plainL M = plainL L) := by
        show _ = _
        rw [hM.out, HLL.out, List.take_length]
      clear hM hMi
      go_wp2_with fail
      go_ret
      exact ⟨A, c, M, rfl, HN, hO.base hs1, hb1.trans (hb.mono hs1)⟩
end Go.Proofs.YtjcfphdjgagimaaGreatDoor

/-
  DERIVED: THE SHELF's CONTRACTS AT THIS DUMP, IN PLAIN WORDS (tools/lay-plain.mjs out of 'TryzLays.lean', which tools/lay-shelf.mjs wrote): THE SAME DECLARATIONS UNDER THE SAME NAMES: 'import', 'namespace', 'open', 'def', 'theorem' AND NOTHING ELSE: no command of the shelf's: FOR A HAND-IN. Each laying: the table of numbers ('.._ren') and one theorem, a field a fact of the dump's own or the kernel's comparison; each contract: ONE APPLICATION.
-/
namespace Go.Proofs
open Go.Shelf
def Tryz.sortT_ren : Go.Shelf.Ren := ⟨fun | 6 => 91 | 15 => 105 | 14 => 104 | 28 => 121 | 29 => 86 | 20 => 113 | 21 => 114 | 22 => 115 | 23 => 116 | 24 => 117 | 25 => 118 | 26 => 119 | 27 => 120 | 46 => 125 | 47 => 126 | 48 => 127 | 49 => 128 | 50 => 129 | 57 => 130 | n => n, fun | 22 => 84 | 24 => 9 | 25 => 71 | 3 => 3 | 39 => 126 | 0 => 0 | 53 => 76 | 55 => 57 | 4 => 4 | 46 => 140 | 45 => 139 | 50 => 144 | 5 => 5 | 9 => 9 | 66 => 149 | 70 => 153 | 76 => 155 | 77 => 156 | n => n, fun | n => n⟩
theorem Tryz.sortT : Go.Proofs.SlLaysF.n6 Tryz.prog Tryz.sortT_ren := {
  mixed := by kernel_rfl
  f6 := ⟨Tryz.f91.name, by decide, Tryz.func91.trans (congrArg some (by kernel_rfl))⟩
  f14 := ⟨Tryz.f104.name, by decide, Tryz.func104.trans (congrArg some (by kernel_rfl))⟩
  f15 := Tryz.func105.trans (congrArg some (by kernel_rfl))
  f20 := ⟨Tryz.f113.name, by decide, Tryz.func113.trans (congrArg some (by kernel_rfl))⟩
  f21 := ⟨Tryz.f114.name, by decide, Tryz.func114.trans (congrArg some (by kernel_rfl))⟩
  f22 := ⟨Tryz.f115.name, by decide, Tryz.func115.trans (congrArg some (by kernel_rfl))⟩
  f23 := ⟨Tryz.f116.name, by decide, Tryz.func116.trans (congrArg some (by kernel_rfl))⟩
  f24 := ⟨Tryz.f117.name, by decide, Tryz.func117.trans (congrArg some (by kernel_rfl))⟩
  f25 := ⟨Tryz.f118.name, by decide, Tryz.func118.trans (congrArg some (by kernel_rfl))⟩
  f26 := ⟨Tryz.f119.name, by decide, Tryz.func119.trans (congrArg some (by kernel_rfl))⟩
  f27 := ⟨Tryz.f120.name, by decide, Tryz.func120.trans (congrArg some (by kernel_rfl))⟩
  f28 := Tryz.func121.trans (congrArg some (by kernel_rfl))
  f29 := Tryz.func86.trans (congrArg some (by kernel_rfl))
  f46 := ⟨Tryz.f125.name, by decide, Tryz.func125.trans (congrArg some (by kernel_rfl))⟩
  f47 := Tryz.func126.trans (congrArg some (by kernel_rfl))
  f48 := Tryz.func127.trans (congrArg some (by kernel_rfl))
  f49 := ⟨Tryz.f128.name, by decide, Tryz.func128.trans (congrArg some (by kernel_rfl))⟩
  f50 := ⟨Tryz.f129.name, by decide, Tryz.func129.trans (congrArg some (by kernel_rfl))⟩
  f57 := ⟨Tryz.f130.name, by decide, Tryz.func130.trans (congrArg some (by kernel_rfl))⟩
  t0 := Tryz.underlying0
  a0 := Tryz.isAgg0
  z0 := Tryz.sizeOf0
  v0 := Tryz.zeroValue0
  t3 := Tryz.underlying3
  a3 := Tryz.isAgg3
  z3 := Tryz.sizeOf3
  v3 := Tryz.zeroValue3
  t4 := Tryz.underlying4
  a4 := Tryz.isAgg4
  z4 := Tryz.sizeOf4
  v4 := Tryz.zeroValue4
  t5 := Tryz.underlying5
  a5 := Tryz.isAgg5
  z5 := Tryz.sizeOf5
  v5 := Tryz.zeroValue5
  t9 := Tryz.underlying9
  a9 := Tryz.isAgg9
  z9 := Tryz.sizeOf9
  v9 := Tryz.zeroValue9
  t22 := Tryz.underlying84
  a22 := Tryz.isAgg84
  z22 := Tryz.sizeOf84
  v22 := Tryz.zeroValue84
  a24 := Tryz.isAgg9
  z24 := Tryz.sizeOf9
  t25 := Tryz.underlying71
  a25 := Tryz.isAgg71
  z25 := Tryz.sizeOf71
  v25 := Tryz.zeroValue71
  t39 := Tryz.underlying126
  a39 := Tryz.isAgg126
  z39 := Tryz.sizeOf126
  v39 := Tryz.zeroValue126
  t45 := Tryz.underlying139
  a45 := Tryz.isAgg139
  z45 := Tryz.sizeOf139
  v45 := Tryz.zeroValue139
  t46 := Tryz.underlying140
  a46 := Tryz.isAgg140
  z46 := Tryz.sizeOf140
  v46 := Tryz.zeroValue140
  t50 := Tryz.underlying144
  a50 := Tryz.isAgg144
  z50 := Tryz.sizeOf144
  v50 := Tryz.zeroValue144
  t53 := Tryz.underlying76
  a53 := Tryz.isAgg76
  z53 := Tryz.sizeOf76
  v53 := Tryz.zeroValue76
  t55 := Tryz.underlying57
  a55 := Tryz.isAgg57
  z55 := Tryz.sizeOf57
  v55 := Tryz.zeroValue57
  t66 := Tryz.underlying149
  a66 := Tryz.isAgg149
  z66 := Tryz.sizeOf149
  v66 := Tryz.zeroValue149
  t70 := Tryz.underlying153
  a70 := Tryz.isAgg153
  z70 := Tryz.sizeOf153
  v70 := Tryz.zeroValue153
  t76 := Tryz.underlying155
  a76 := Tryz.isAgg155
  z76 := Tryz.sizeOf155
  v76 := Tryz.zeroValue155
  t77 := Tryz.underlying156
  a77 := Tryz.isAgg156
  z77 := Tryz.sizeOf156
  v77 := Tryz.zeroValue156 }
end Go.Proofs

/- tree.Tree.Clone, New without items. -/
namespace Go.Proofs.YtjcfphdjgagimaaGreatDoor
open Go.RowKit Go.Maps Go.Shelf

end Go.Proofs.YtjcfphdjgagimaaGreatDoor

/- api.Leaf: as an argument. -/
namespace Go.Proofs.YtjcfphdjgagimaaGreatDoor
open Go.RowKit Go.WideShapes Go.ChangeShapes Go.ChangeAt Go.Deep Go.Joins

section
variable {H : Type} {enc : TypeId × Value → H} {w : World} {spare : Nat → Bool} {held : Bool}
/-- what is known of a leaf -/
structure LV.okAt (w : World) (Z : Nat → Prop) (o : LV) : Prop where
  x : o.x.ok w Z
  len : o.x.l.length ≤ 140737488355328
  k : -9223372036854775808 ≤ o.k ∧ o.k < 9223372036854775808
theorem list2 {α : Type} {l : List α} (h : l.length = 2) : ∃ a0 a1, l = [a0, a1] := by
  match l, h with
  | [a0, a1], _ => exact ⟨_, _, rfl⟩
set_option maxRecDepth 100000 in
theorem open_leaf {n : Nat} {cs : List Value} {x : DataW H × List MemPlace} (h : DataW.trod enc Tryz.prog w 0 spare held n 46 cs = some x) (hw : Within 46 x) :
    ∃ o : LV, cs = o.cells ∧ o.okAt w (fun b => b < w.heap.size) := by
  obtain ⟨ys, n', hcl, hyl, hf⟩ := open_st Tryz.underlying46 (by kernel_rfl) h (by kernel_rfl) hw
  obtain ⟨a0, a1, rfl⟩ := list2 hcl
  obtain ⟨y0, y1, rfl⟩ := list2 hyl
  obtain ⟨k, e, _, wk⟩ := DataW.trod_int Tryz.underlying3 (hf 0 _ _ _ rfl rfl rfl).1
  obtain rfl := List.singleton_inj.1 e
  obtain ⟨b, rfl, hb, hbl⟩ := open_bv (hf 1 _ _ _ rfl rfl rfl).1 (hf 1 _ _ _ rfl rfl rfl).2
  have bk := i64_bd wk
  exact ⟨⟨k, b⟩, rfl, hb, hbl, bk⟩
end
end Go.Proofs.YtjcfphdjgagimaaGreatDoor

/- api.Item in slices: as an argument. -/
namespace Go.Proofs.YtjcfphdjgagimaaGreatDoor
open Go.RowKit Go.WideShapes Go.ChangeShapes Go.ChangeAt Go.ChangeMaps Go.Deep Go.Joins

/-- items as they come in -/
structure ItA (w : World) (A : Option Addr) (L : List (List UInt8 × LV)) : Prop where
  rd : Rd w (fun b => b < w.heap.size) 3 A L.length (L.flatMap itemC)
  ok : ∀ x ∈ L, x.2.okAt w (fun b => b < w.heap.size) ∧ x.1.length ≤ 140737488355328
  len : L.length ≤ 140737488355328
section
variable {H : Type} {enc : TypeId × Value → H} {w : World} {spare : Nat → Bool} {held : Bool}
/-- a struct of fields of any number of cells -/
theorem open_sti {t : TypeId} {fs : Array Field} {N : Nat} (hs : Tryz.prog.underlying t = some (.struct fs)) {n : Nat} {cs : List Value} {x : DataW H × List MemPlace} (h : DataW.trod enc Tryz.prog w 0 spare held n t cs = some x) (hC : Tryz.prog.cellsOf t = N) (hw : Within t x) :
    ∃ (ys : List (DataW H × List MemPlace)) (n' : Nat), cs.length = N ∧ ys.length = fs.size ∧
      ∀ (j : Nat) (f : Field) (y : DataW H × List MemPlace), fs[j]? = some f → ys[j]? = some y → DataW.trod enc Tryz.prog w 0 spare held n' f.type ((cs.drop f.offset).take (Tryz.prog.cellsOf f.type)) = some y ∧ Within f.type y := by
  obtain ⟨xs, n', _, hx, hl, hlen, hg⟩ := DataW.trod_struct hs h
  rw [hC] at hl
  refine ⟨xs, n', hl, hlen, fun j f y hj hy => ⟨by rw [hg j f hj, hy], fun k hk => hw k ?_⟩⟩
  rw [hx]
  simp only [DataW.weights, hs]
  refine DataW.weights_mem_each (j := j) (t := f.type) (d := y.1) ?_ ?_ k hk
  · rw [List.getElem?_map]
    have : fs.toList[j]? = some f := by simpa using hj
    rw [this]; rfl
  · rw [List.getElem?_map, hy]; rfl
theorem list3i {α : Type} {l : List α} (h : l.length = 3) : ∃ a0 a1 a2, l = [a0, a1, a2] := by
  match l, h with
  | [a0, a1, a2], _ => exact ⟨_, _, _, rfl⟩
theorem str_withini {b : List UInt8} {p : List MemPlace} (hw : Within 9 ((DataW.lit (Lit.string b) : DataW H), p)) : b.length ≤ 140737488355328 := by
  have h1 := hw b.length (by simp [DataW.weights])
  have h2 := reachBytes_lt
  omega
set_option maxRecDepth 100000 in
theorem open_item {n : Nat} {cs : List Value} {x : DataW H × List MemPlace} (h : DataW.trod enc Tryz.prog w 0 spare held n 48 cs = some x) (hw : Within 48 x) :
    ∃ o : List UInt8 × LV, cs = itemC o ∧ o.2.okAt w (fun b => b < w.heap.size) ∧ o.1.length ≤ 140737488355328 := by
  obtain ⟨ys, n', hcl, hyl, hf⟩ := open_sti (N := 3) Tryz.underlying48 h (by kernel_rfl) hw
  obtain ⟨a0, a1, a2, rfl⟩ := list3i hcl
  obtain ⟨y0, y1, rfl⟩ := list2 hyl
  obtain ⟨f0, w0⟩ := hf 0 _ _ rfl rfl
  obtain ⟨f1, w1⟩ := hf 1 _ _ rfl rfl
  have c0 : Tryz.prog.cellsOf 9 = 1 := by kernel_rfl
  have c1 : Tryz.prog.cellsOf 46 = 2 := by kernel_rfl
  replace f0 : DataW.trod enc Tryz.prog w 0 spare held n' 9 (([a0, a1, a2].drop 0).take (Tryz.prog.cellsOf 9)) = some y0 := f0
  replace f1 : DataW.trod enc Tryz.prog w 0 spare held n' 46 (([a0, a1, a2].drop 1).take (Tryz.prog.cellsOf 46)) = some y1 := f1
  rw [c0] at f0
  rw [c1] at f1
  obtain ⟨p, e, hx0, _⟩ := DataW.trod_string Tryz.underlying9 f0
  obtain ⟨o, e2, ho⟩ := open_leaf f1 w1
  obtain rfl : a0 = .string p := by simpa using e
  obtain ⟨k, xx⟩ := o
  obtain ⟨rfl, rfl⟩ : a1 = .int .i64 k ∧ a2 = .slice xx.A xx.l.length xx.c := by simpa [LV.cells] using e2
  rw [hx0] at w0
  exact ⟨(p.data.toList, ⟨k, xx⟩), rfl, ho, str_withini w0⟩
set_option maxRecDepth 100000 in
theorem open_items {n : Nat} {v : Value} {x : DataW H × List MemPlace} (h : DataW.trod enc Tryz.prog w 0 spare held n 22 [v] = some x) (hw : Within 22 x) :
    ∃ (A : Option Addr) (c : Nat) (l : List (List UInt8 × LV)), v = .slice A l.length c ∧ ItA w A l := by
  obtain ⟨A, c, l, rfl, _, _, h3, h4, h5⟩ := open_sl (w := w) (enc := enc) (spare := spare) (held := held) itemC (fun o => o.2.okAt w (fun b => b < w.heap.size) ∧ o.1.length ≤ 140737488355328) 3 48 (t := 22) (e := 48) Tryz.underlying22 (by kernel_rfl) (by kernel_rfl) (by omega) (fun n cs x hx hx2 => open_item hx hx2) h hw
  refine ⟨A, c, l, rfl, h3, h4, ?_⟩
  have := reachBytes_lt
  omega
end
end Go.Proofs.YtjcfphdjgagimaaGreatDoor

/- What trees keep while items are set, plainly; what a tree's writes leave. -/
namespace Go.Proofs.YtjcfphdjgagimaaGreatDoor
open Go.RowKit Go.Maps

theorem par_under {q : List UInt8} (h : (parT q).2 = true) : underB q (parT q).1 = true := by
  unfold parT at h ⊢
  split at h
  · rename_i hc
    rw [if_pos hc]
    simp only [Bool.and_eq_true, decide_eq_true_eq] at hc
    obtain ⟨hg, hl⟩ := hc
    have h1 : (cutL q).dropLast ≠ [] := by intro e; have := congrArg List.length e; rw [List.length_dropLast] at this; simp at this; omega
    have h2 := cut_paste (cutL q).dropLast h1 (fun y hy => cut_no q y ((List.dropLast_sublist _).subset hy))
    have hne : cutL q ≠ [] := fun e => by rw [e] at hl; simp at hl
    have h3 : preB q (pasteL (cutL q).dropLast) = true := (preB_iff _ _).2 ⟨[(cutL q).getLast hne], by simp, by rw [h2, List.dropLast_concat_getLast hne]⟩
    show underB q (pasteL (cutL q).dropLast) = true
    unfold underB
    rw [hg, good_pre hg h3, h3]; rfl
  · simp at h
theorem under_irr (p : List UInt8) : underB p p = false := by
  rcases h : underB p p with _ | _
  · rfl
  · have := (under_order (b := p) h).1
    rw [cmpT_self] at this
    omega
/-- above each path that has a leaf stands a Dir -/
def DirsOk (T : List (List UInt8 × LP)) : Prop := ∀ x ∈ T, (parT x.1).2 = true → kindL (getR T (parT x.1).1) = 2
theorem DirsOk.nil : DirsOk [] := by simp [DirsOk]
theorem DirsOk.set {T : List (List UInt8 × LP)} (h : DirsOk T) (p : List UInt8) (l : LP) : DirsOk (setS T p l) := by
  unfold setS
  split
  · rename_i hm
    unfold mayS at hm
    split at hm
    · simp at hm
    · split at hm
      · rename_i hc; exact absurd hm hc
      · split at hm
        · simp at hm
        · rename_i hb
          have hbe : l.1 ≠ 2 → ∀ x ∈ T, underB x.1 p = false := fun h2 x hx => by
            rcases hu : underB x.1 p with _ | _
            · rfl
            · refine absurd ⟨h2, ?_⟩ hb
              intro e
              have : x.1 ∈ (keysR T).filter fun q => underB q p := List.mem_filter.2 ⟨List.mem_map.2 ⟨x, hx, rfl⟩, hu⟩
              rw [e] at this
              cases this
          unfold doS
          split
          · rename_i h0
            intro x hx hp
            have hxT := (List.mem_filter.1 hx).1
            have h1 := h x hxT hp
            rw [getR_without, if_neg]
            · exact h1
            · intro e
              have h2 := par_under hp
              rw [e, hbe (by omega) x hxT] at h2
              cases h2
          · rename_i h0
            rw [if_neg h0] at hm
            split at hm
            · simp at hm
            · rename_i hk
              intro x hx hp
              unfold putR at hx
              rcases mem_ins.1 hx with rfl | hx
              · dsimp only at hp ⊢
                have h1 : kindL (getR T (parT p).1) = 2 := by
                  by_cases e : kindL (getR T (parT p).1) = 2
                  · exact e
                  · exact absurd ⟨hp, e⟩ hk
                rw [getR_put, if_neg]
                · exact h1
                · intro e
                  have h2 := par_under hp
                  rw [e, under_irr] at h2
                  cases h2
              · have hxT := (List.mem_filter.1 hx).1
                have h1 := h x hxT hp
                rw [getR_put]
                split
                · rename_i e
                  by_cases h2 : l.1 = 2
                  · show l.1 = 2
                    exact h2
                  · have h3 := par_under hp
                    rw [e, hbe h2 x hxT] at h3
                    cases h3
                · exact h1
  · exact h
/-- one item behind the other set -/
def playS (T : List (List UInt8 × LP)) (l : List (List UInt8 × LP)) : List (List UInt8 × LP) := l.foldl (fun T x => setS T x.1 x.2) T
theorem play_snoc (T l : List (List UInt8 × LP)) (x : List UInt8 × LP) : playS T (l ++ [x]) = setS (playS T l) x.1 x.2 := by simp [playS]
theorem play_dirs (T l : List (List UInt8 × LP)) (h : DirsOk T) : DirsOk (playS T l) := by
  induction l generalizing T with
  | nil => exact h
  | cons x l ih => exact ih _ (h.set x.1 x.2)
/-- the reference's step, plainly -/
theorem plain_step (L : List (List UInt8 × LV)) (p : List UInt8) (v : LV) : plainL (if mayS (plainL L) p v.p = 0 then putI L p v else L) = setS (plainL L) p v.p := by
  unfold setS
  split
  · unfold putI doS
    show plainL (if v.k = 0 then _ else _) = if v.k = 0 then _ else _
    split
    · exact plain_without L p
    · exact plain_put L p v
  · rfl

/-- what is read at cells that are no maps does not lie in the tree's own blocks -/
theorem TreeAt.apart {w : World} {tb : Nat} {mo : Option Nat} {K : List (List UInt8 × LV)} (t : TreeAt w tb mo K) {Z : Nat → Prop} {size n : Nat} {A : Option Addr} {xs : List Value} (h : Rd w Z size A n xs) (hx : ∀ u ∈ xs, ∀ m, u ≠ .map m) : Rd w (fun b => Z b ∧ b ≠ tb ∧ mo ≠ some b) size A n xs := by
  refine ⟨h.1, fun hn => ?_⟩
  obtain ⟨b, off, e, hz, hlt, hc⟩ := h.2 hn
  refine ⟨b, off, e, ?_, hlt, hc⟩
  have h0 : 0 < xs.length := by rw [h.1]; exact hn
  have hc0 := hc 0 _ (List.getElem?_eq_getElem h0)
  have hne := hx _ (List.getElem_mem h0)
  refine ⟨hz, fun eb => ?_, fun em => ?_⟩
  · subst eb
    rw [t.blk.cell] at hc0
    rcases Nat.eq_zero_or_pos (off + 0) with h1 | h1
    · rw [h1] at hc0
      simp at hc0
      exact hne _ hc0.symm
    · rw [Array.getElem?_eq_none (by simp; omega)] at hc0; cases hc0
  · rcases t.map with ⟨e0, _⟩ | ⟨mb, e0, hm⟩
    · rw [e0] at em; cases em
    · rw [e0] at em
      injection em with em
      subst em
      obtain ⟨D, ⟨es, clock, h1, _⟩, _⟩ := hm.own
      simp [World.cell?, h1] at hc0
theorem bv_no_map (l : List UInt8) : ∀ u ∈ l.map bv, ∀ m, u ≠ .map m := by
  intro u hu m e
  obtain ⟨x, _, rfl⟩ := List.mem_map.1 hu
  simp [bv] at e
theorem item_no_map (L : List (List UInt8 × LV)) : ∀ u ∈ L.flatMap itemC, ∀ m, u ≠ .map m := by
  intro u hu m e
  obtain ⟨x, _, hx⟩ := List.mem_flatMap.1 hu
  subst e
  simp [itemC, stv] at hx
/-- rows of items stay, whatever is set on a tree -/
theorem Its.set {w w' : World} {A : Option Addr} {L K : List (List UInt8 × LV)} {tb : Nat} {mo : Option Nat} (h : Its w A L) (t : TreeAt w tb mo K) (k : Fr (fun g => g = tb ∨ mo = some g) w w') : Its w' A L := by
  refine ⟨((t.apart h.rd (item_no_map L)).fr k fun b _ hz e => ?_).mono (fun _ _ _ => trivial), fun x hx => ?_, h.len, h.txt⟩
  · exact e.elim hz.2.1 hz.2.2
  · have h1 := h.ok x hx
    exact ⟨((t.apart h1.1 (bv_no_map _)).fr k fun b _ hz e => e.elim hz.2.1 hz.2.2).mono (fun _ _ _ => trivial), h1.2⟩
theorem ItA.fr {w w' : World} {A : Option Addr} {L : List (List UInt8 × LV)} {S : Nat → Prop} (h : ItA w A L) (k : Fr S w w') (hS : ∀ b, b < w.heap.size → ¬ S b) : ItA w' A L := by
  refine ⟨(h.rd.fr k fun b hb _ => hS b hb).mono (fun b hb _ => hb), fun x hx => ?_, h.len⟩
  have h1 := h.ok x hx
  exact ⟨⟨(h1.1.x.fr k fun b hb _ => hS b hb).mono (fun b hb _ => hb), h1.1.len, h1.1.k⟩, h1.2⟩
theorem ItA.below {w w' : World} {A : Option Addr} {L : List (List UInt8 × LV)} (h : ItA w A L) (k : Below w.heap.size w w') : ItA w' A L := h.fr (Fr.of_below k (fun _ => False)) (fun _ _ h => h)
theorem ItA.at_ {w : World} {A : Option Addr} {L : List (List UInt8 × LV)} {i : Nat} (h : ItA w A L) (hi : i < L.length) :
    ∃ b off, A = some ⟨b, off, none⟩ ∧ b < w.heap.size ∧ w.cell? ⟨b, off + i * 3, none⟩ = some (stv L[i].1) ∧ w.cell? ⟨b, off + i * 3 + 1, none⟩ = some (.int .i64 L[i].2.k) ∧ w.cell? ⟨b, off + i * 3 + 2, none⟩ = some (.slice L[i].2.x.A L[i].2.x.l.length L[i].2.x.c) := by
  obtain ⟨b, off, hA, _, hb, hc⟩ := h.rd.2 (by omega)
  have hg : ∀ j, j < 3 → (L.flatMap itemC)[i * 3 + j]? = (itemC L[i])[j]? := fun j hj => flat_get (k := 3) item_len L i j hi hj
  refine ⟨b, off, hA, hb, hc _ _ (hg 0 (by omega)), ?_, ?_⟩
  · rw [Nat.add_assoc]; exact hc _ _ (hg 1 (by omega))
  · rw [Nat.add_assoc]; exact hc _ _ (hg 2 (by omega))
end Go.Proofs.YtjcfphdjgagimaaGreatDoor

/- tree.New. -/
namespace Go.Proofs.YtjcfphdjgagimaaGreatDoor
open Go.RowKit Go.Maps

theorem treeNew_nil (w : World) :
    Calls Tryz.prog 19 #[.slice none 0 0] w fun e w' => e = .returned (.tuple #[.pointer (some ⟨w.heap.size, 0, none⟩), .int .i64 0]) ∧ TreeAt w' w.heap.size none [] ∧ Below w.heap.size w w' := by
  go_enter Tryz.func19, Tryz.ntmps19
  go_wp2_with fail
  go_loopw [12] (fun iv wr => iv = .int .i64 0 ∧ wr = w.alloc (.cells #[.map none] 66)) (fun _ _ => 0)
  case atStart => exact ⟨rfl, rfl⟩
  case round =>
    obtain ⟨rfl, rfl⟩ := hrel
    go_wp2_with fail
    go_ret2
    exact ⟨rfl, TreeAt.new _, (by repeat (first | exact Below.refl _ _ | refine Below.alloc ?_ (by simp) _ | refine Below.setCell ?_ (by simp) _ | refine Below.drew ?_))⟩
end Go.Proofs.YtjcfphdjgagimaaGreatDoor

/- tenderlaw08: lives, Light. -/
namespace Go.Proofs.YtjcfphdjgagimaaGreatDoor
open Go.RowKit Go.Maps

/-- are there few items, and small ones? -/
def bytesI (L : List (List UInt8 × LV)) : Nat := (L.map fun x => x.2.x.l.length).sum
def lightI (L : List (List UInt8 × LV)) : Bool := L.all (fun x => decide (x.1.length ≤ 200)) && (decide (L.length ≤ 200) && decide (bytesI L ≤ 20000))
theorem bytesI_take (L : List (List UInt8 × LV)) (i : Nat) (hi : i < L.length) : bytesI (L.take (i + 1)) = bytesI (L.take i) + L[i].2.x.l.length := by
  unfold bytesI
  rw [List.take_succ_eq_append_getElem hi, List.map_append, List.sum_append]
  simp
theorem bytesI_le (K : Nat) : ∀ (L : List (List UInt8 × LV)), (∀ o ∈ L, o.2.x.l.length ≤ K) → bytesI L ≤ L.length * K
  | [], _ => by simp [bytesI]
  | o :: l, h => by
    have h1 := h o (by simp)
    have h2 := bytesI_le K l (fun o ho => h o (by simp [ho]))
    simp only [bytesI, List.map_cons, List.sum_cons, List.length_cons, Nat.add_mul] at h2 ⊢
    omega
theorem bytesI_take_le (K : Nat) (l : List (List UInt8 × LV)) (i : Nat) (h : ∀ o ∈ l, o.2.x.l.length ≤ K) : bytesI (l.take i) ≤ i * K := by
  have h1 := bytesI_le K (l.take i) (fun o ho => h o (List.mem_of_mem_take ho))
  have h2 : (l.take i).length ≤ i := List.length_take_le _ _
  have h3 : (l.take i).length * K ≤ i * K := Nat.mul_le_mul_right _ h2
  omega
/-- the sum that Light has made: right while few have been seen -/
def SeenI (l : List (List UInt8 × LV)) (i : Nat) (s : Int) : Prop := i ≤ 400 → s = (bytesI (l.take i) : Int)
theorem seenI_step {l : List (List UInt8 × LV)} {i : Nat} {s : Int} (hs : SeenI l i s) (hi : i < l.length) (h : ∀ o ∈ l, o.2.x.l.length ≤ 140737488355328) : SeenI l (i + 1) (wrap64 (s + (l[i].2.x.l.length : Int))) := by
  intro hi2
  have e := hs (by omega)
  have h1 := bytesI_take_le 140737488355328 l (i + 1) h
  have h2 := bytesI_take l i hi
  have h3 : (i + 1) * 140737488355328 ≤ 401 * 140737488355328 := Nat.mul_le_mul_right _ (by omega)
  rw [h2] at h1 ⊢
  rw [e, IntWalk.wrap64_in _ ⟨by omega, by omega⟩]
  omega
theorem le_sum : ∀ (l : List Nat) (n : Nat), n ∈ l → n ≤ l.sum
  | [], _, h => by cases h
  | m :: l, n, h => by
    rw [List.sum_cons]
    rcases List.mem_cons.1 h with rfl | h
    · omega
    · have := le_sum l n h
      omega
theorem lightI_len {L : List (List UInt8 × LV)} (h : lightI L = true) : L.length ≤ 200 ∧ ∀ x ∈ L, x.1.length ≤ 200 ∧ x.2.x.l.length ≤ 20000 := by
  unfold lightI at h
  simp only [Bool.and_eq_true, decide_eq_true_eq, List.all_eq_true] at h
  refine ⟨h.2.1, fun x hx => ⟨h.1 x hx, ?_⟩⟩
  have h1 : x.2.x.l.length ≤ bytesI L := by
    unfold bytesI
    exact le_sum _ _ (List.mem_map.2 ⟨x, hx, rfl⟩)
  omega
set_option maxRecDepth 100000 in
set_option maxHeartbeats 400000 in
theorem lightI_any (A : Option Addr) (c : Nat) (l : List (List UInt8 × LV)) (w : World) (h : ItA w A l) :
    Calls Tryz.prog 5 #[.slice A l.length c] w fun e w' => e = .returned (.bool (lightI l)) ∧ Below w.heap.size w w' := by
  have hlen := h.len
  go_enter Tryz.func5, Tryz.ntmps5
  go_wp2_with fail
  go_loopw [3, 8] (fun sv iv wr => ∃ (i : Nat) (s : Int), i ≤ l.length ∧ iv = .int .i64 (i : Int) ∧ sv = .int .i64 s ∧ SeenI l i s ∧ (∀ x ∈ l.take i, x.1.length ≤ 200) ∧ Below w.heap.size w wr) (fun _ iv _ => l.length - (intOf iv).toNat)
  case atStart => exact ⟨0, 0, Nat.zero_le _, rfl, rfl, by intro _; simp [bytesI], by simp, Below.refl _ _⟩
  case round =>
    obtain ⟨i, s, hi, rfl, rfl, hs, hp, hb⟩ := hrel
    by_cases hlt : i < l.length
    · obtain ⟨b, off, rfl, hbb, hc0, hc1, hc2⟩ := (h.below hb).at_ hlt
      have hsz := hb.size
      have hok := h.ok _ (List.getElem_mem hlt)
      have hxl := hok.1.len
      have hpl := hok.2
      have hst := Lib.hid (seenI_step hs hlt (fun o ho => (h.ok o ho).1.len))
      have hmem := List.getElem_mem hlt
      have hp2 : l[i].1.length ≤ 200 → Hid (∀ x ∈ l.take (i + 1), x.1.length ≤ 200) := fun h2 => Lib.hid (by
        rw [List.take_succ_eq_append_getElem hlt]
        intro x hx
        rcases List.mem_append.1 hx with hx | hx
        · exact hp x hx
        · rw [List.mem_singleton.1 hx]; exact h2)
      have hno : ¬ l[i].1.length ≤ 200 → Hid (lightI l = false) := fun h2 => Lib.hid (by
        unfold lightI
        rw [Bool.and_eq_false_iff]
        refine .inl ?_
        rw [List.all_eq_false]
        exact ⟨_, hmem, by simpa using h2⟩)
      clear hok hmem hp
      generalize l[i] = o at *
      obtain ⟨p, k, xA, xc, xl⟩ := o
      simp only [stv] at *
      by_cases h2 : p.length ≤ 200
      · have hp3 := hp2 h2
        clear hp2 hno
        go_wp2_with fail
        go_roundw
        case rel => exact ⟨i + 1, _, hlt, by go_num, rfl, by have := hst.out; push_cast at this; exact this, hp3.out, (hb.alloc hsz _)⟩
        case measure => simp [intOf]; omega
      · have hn := hno h2
        clear hp2 hno
        go_wp2_with fail
        go_ret
        exact ⟨ret_b hn.out.symm, hb.alloc hsz _⟩
    · have e : i = l.length := by omega
      subst e
      rw [List.take_length] at hp
      have hall : l.all (fun x => decide (x.1.length ≤ 200)) = true := by simpa using hp
      have hli : Hid (lightI l = (decide (l.length ≤ 200) && decide (bytesI l ≤ 20000))) := Lib.hid (by unfold lightI; rw [hall]; simp)
      by_cases h2 : l.length ≤ 200
      · have hss := hs (by omega)
        rw [List.take_length] at hss
        subst hss
        clear hp hall
        go_wp2
        all_goals
          go_ret
          exact ⟨ret_b (by rw [hli.out, Bool.eq_iff_iff]; simp; omega), hb⟩
      · clear hp hall
        go_wp2
        all_goals
          go_ret
          exact ⟨ret_b (by rw [hli.out, Bool.eq_iff_iff]; simp; omega), hb⟩
end Go.Proofs.YtjcfphdjgagimaaGreatDoor
