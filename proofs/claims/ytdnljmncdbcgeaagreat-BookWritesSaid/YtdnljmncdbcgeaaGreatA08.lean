/- Drawn regions in the text's order: operations that only tell what stays so (they may come at any time), others each of which is alone when it comes, and a tail behind all of them. No program. -/
import Derived.Test.YtdnljmncdbcgeaaGreatA07

namespace Go.Proofs.YtdnljmncdbcgeaaGreat
open Go.RowKit

section
variable {P : Program} {ops : Array Oper} {md : Region.Mode} {C : World → Prop}

/-- nothing but a value -/
def Qz : Exit → Act → World → Prop := fun _ _ _ => False
theorem letsOut_qz : ¬ LetsOut Qz := fun h => by
  obtain ⟨_, _, h⟩ := h
  exact h
theorem Oper.wp_of_z {o : Oper} {a : Act} {w : World} {K : Act → World → Prop} {Q : Exit → Act → World → Prop} (h : o.wp P a w K Qz) : o.wp P a w K Q := by
  unfold Oper.wp at *
  generalize (execOp a.eval o).run P w = r at *
  cases r with
  | ok n w' =>
    cases n <;> simp only [Oper.upon] at h ⊢
    case enter f args =>
      refine Calls.mono h fun e w'' he => ?_
      cases e with
      | returned u => exact he
      | panicked c => exact absurd he (by simp [Qz])
      | outgrown => exact absurd he letsOut_qz
    all_goals first | exact h | exact absurd h (by simp)
  | halt x w' =>
    cases x <;> simp only [Oper.upon] at h ⊢
    case panic u => exact absurd h (by simp [Qz])
theorem wpOp_of_z {i : Nat} {a : Act} {w : World} {K : Act → World → Prop} {Q : Exit → Act → World → Prop} (h : wpOp P ops Qz i K a w) : wpOp P ops Q i K a w := by
  unfold wpOp at *
  split
  · rename_i h0; simpa [h0] using h
  · rename_i o ho
    simp only [ho] at h
    split
    · rename_i hw
      simp only [hw, if_true] at h
      rcases h with h | ⟨_, h⟩
      · exact .inl (Oper.wp_of_z h)
      · exact absurd h letsOut_qz
    · rename_i hw; simpa [hw] using h

/-- in every world of the class it tells v, and nothing turns -/
def StC (P : Program) (ops : Array Oper) (C : World → Prop) (o : Oper) (v : Value) (a : Act) : Prop :=
  (Region.wanted o (yielded ops a.tmps) = true ∧ ∀ w, C w → (execOp a.eval o).run P w = .ok (.value v) w) ∨ (Region.wanted o (yielded ops a.tmps) = false ∧ v = undef)
theorem StC.of_same {o : Oper} {v : Value} {a a' : Act} (hy : StC P ops C o v a) (he : execOp a'.eval o = execOp a.eval o)
    (hw : Region.wanted o (yielded ops a'.tmps) = Region.wanted o (yielded ops a.tmps)) : StC P ops C o v a' := by
  unfold StC at *
  rw [he, hw]
  exact hy
theorem StC.wpOp {i : Nat} {o : Oper} {v : Value} {a : Act} {w : World} {K : Act → World → Prop} {Q : Exit → Act → World → Prop} (hi : ops[i]? = some o) (hy : StC P ops C o v a) (hw : C w)
    (hK : K (a.put o.dst v) w) : wpOp P ops Q i K a w := by
  unfold Go.wpOp
  simp only [hi]
  rcases hy with ⟨hwt, hv⟩ | ⟨hwt, rfl⟩
  · simp only [hwt, if_true, Oper.wp, hv w hw, Oper.upon]
    exact .inl hK
  · simp only [hwt, Bool.false_eq_true, if_false]
    exact hK

theorem wpOp_putC {j : Nat} {oi oj : Oper} {v : Value} (hj : ops[j]? = some oj) (hap : oi.apart ops oj = true)
    (hsi : ∀ cs b, oi.op ≠ .select cs b) (hsj : ∀ cs b, oj.op ≠ .select cs b) {K : Act → World → Prop} {a : Act} {w : World}
    (hy : StC P ops C oi v a) (h : wpOp P ops Qz j K (a.put oi.dst v) w) :
    wpOp P ops Qz j (fun a' w' => StC P ops C oi v a' ∧ K (a'.put oi.dst v) w') a w := by
  obtain ⟨h1, h2, h3⟩ := Oper.apart_spec hap
  have keep : ∀ (a : Act), StC P ops C oi v a → ∀ u, StC P ops C oi v (a.put oj.dst u) := fun a hy u =>
    hy.of_same (execOp_put oi hsi a oj.dst u h3) (wanted_put oi a oj.dst u h3)
  have keepD : ∀ d, StC P ops C oi v { a with defers := d :: a.defers } := fun d => hy.of_same rfl rfl
  unfold wpOp at *
  simp only [hj] at *
  rw [wanted_put oj a oi.dst v h1] at h
  split
  · rename_i hw
    simp only [hw, if_true] at h
    rcases h with h | ⟨_, hlets⟩
    case inr => exact absurd hlets letsOut_qz
    refine .inl ?_
    unfold Oper.wp at *
    rw [execOp_put oj hsj a oi.dst v h1] at h
    generalize (execOp a.eval oj).run P w = r at *
    cases r with
    | ok n w' =>
      cases n <;> simp only [Oper.upon] at h ⊢
      case value u => exact ⟨keep a hy u, by rw [← Act.put_comm a v u h2]; exact h⟩
      case skip => exact ⟨keep a hy _, by rw [← Act.put_comm a v undef h2]; exact h⟩
      case defer d =>
        refine ⟨keep _ (keepD d) _, ?_⟩
        rw [← Act.put_comm _ v undef h2, ← Act.put_defers]
        exact h
      case enter f args =>
        refine Calls.mono h fun e w'' he => ?_
        cases e with
        | returned u => exact ⟨keep a hy u, by rw [← Act.put_comm a v u h2]; exact he⟩
        | panicked c => exact absurd he (by simp [Qz])
        | outgrown => exact he
      case row row args => exact Rows.mono h fun u w'' he => ⟨keep a hy u, by rw [← Act.put_comm a v u h2]; exact he⟩
    | halt x w' =>
      cases x <;> simp only [Oper.upon] at h ⊢
      case panic u => exact absurd h (by simp [Qz])
  · rename_i hw
    simp only [hw] at h
    exact ⟨keep a hy _, by rw [← Act.put_comm a v undef h2]; exact h⟩

/-- so many operations below m, each of which may come up, then E -/
def wpAnyT (P : Program) (md : Region.Mode) (ops : Array Oper) (C : World → Prop) (m : Nat) (E : Array Bool → Act → World → Prop) : Nat → Array Bool → Act → World → Prop
  | 0, listed, a, w => C w ∧ (∀ j ∈ Region.ready md ops listed, m ≤ j) ∧ E listed a w
  | k + 1, listed, a, w => C w ∧ Region.ready md ops listed ≠ [] ∧ ∀ i ∈ Region.ready md ops listed, i < m ∧ wpOp P ops Qz i (wpAnyT P md ops C m E k (listed.setIfInBounds i true)) a w
theorem wpAnyT.c {m k : Nat} {E : Array Bool → Act → World → Prop} {listed : Array Bool} {a : Act} {w : World} (h : wpAnyT P md ops C m E k listed a w) : C w := by
  cases k with
  | zero => exact h.1
  | succ k => exact h.1

theorem wpAnyT_first {m i : Nat} {oi : Oper} {v : Value} {E : Array Bool → Act → World → Prop} (hi : ops[i]? = some oi) (him : i < m) (hsel : ∀ (j : Nat) (o : Oper) cs b, ops[j]? = some o → o.op ≠ .select cs b) (hT : TailWaitsB md ops m) :
    ∀ (fuel : Nat) (listed : Array Bool) (a : Act) (w : World), HeadInv md ops m listed →
      (∀ j oj, ops[j]? = some oj → j ≠ i → listed.getD j true = false → (∀ e ∈ oj.after, Region.binds md e = true → e.on ≠ i) → oi.apart ops oj = true) →
      i ∈ Region.ready md ops listed → StC P ops C oi v a →
      wpAnyT P md ops C m E fuel (listed.setIfInBounds i true) (a.put oi.dst v) w → wpAnyT P md ops C m E (fuel + 1) listed a w := by
  intro fuel
  induction fuel with
  | zero =>
    intro listed a w inv _ hr hy H
    refine ⟨H.c, fun h => (by rw [h] at hr; cases hr), fun j hj => ?_⟩
    by_cases hji : j = i
    · subst hji; exact ⟨him, hy.wpOp hi H.c H⟩
    · have h1 := H.2.1 j (ready_mono hj hji)
      have h2 := hT listed inv i him (mem_ready.1 hr).1 j hj
      omega
  | succ fuel ih =>
    intro listed a w inv hfree hr hy H
    refine ⟨H.c, fun h => (by rw [h] at hr; cases hr), fun j hj => ?_⟩
    by_cases hji : j = i
    · subst hji; exact ⟨him, hy.wpOp hi H.c H⟩
    · obtain ⟨hjm, h1⟩ := H.2.2 j (ready_mono hj hji)
      obtain ⟨hjun, oj, hoj, hall⟩ := mem_ready.1 hj
      have hnot : ∀ e ∈ oj.after, Region.binds md e = true → e.on ≠ i := fun e he hb heq => by
        have h1 := hall e he hb
        rw [heq, getD_both (mem_ready.1 hr).1] at h1
        cases h1
      have h2 := wpOp_putC hoj (hfree j oj hoj hji hjun hnot) (fun cs b => hsel i oi cs b hi) (fun cs b => hsel j oj cs b hoj) hy h1
      have hfree' : ∀ k ok, ops[k]? = some ok → k ≠ i → (listed.setIfInBounds j true).getD k true = false →
          (∀ e ∈ ok.after, Region.binds md e = true → e.on ≠ i) → oi.apart ops ok = true := fun k ok hk hki hun hno => by
        refine hfree k ok hk hki ?_ hno
        by_cases hjk : j = k
        · subst hjk; exact hjun
        · rw [getD_set_ne true hjk] at hun; exact hun
      refine ⟨hjm, wpOp_mono (fun a' w' h3 => ih (listed.setIfInBounds j true) a' w' (inv.set hj hjm) hfree' (ready_mono hr (Ne.symm hji)) h3.1 ?_) h2⟩
      rw [Array.setIfInBounds_comm _ _ hji]
      exact h3.2

theorem wpAny_of_T {m g : Nat} {E : Array Bool → Act → World → Prop} {Q : Exit → Act → World → Prop} (hE : ∀ listed a w, E listed a w → wpAny P md ops Q g listed a w) :
    ∀ (k : Nat) (listed : Array Bool) (a : Act) (w : World), wpAnyT P md ops C m E k listed a w → wpAny P md ops Q (k + g) listed a w
  | 0, listed, a, w, h => by rw [Nat.zero_add]; exact hE _ _ _ h.2.2
  | k + 1, listed, a, w, h => by
    rw [show k + 1 + g = (k + g) + 1 by omega]
    exact ⟨fun h0 => absurd h0 h.2.1, fun j hj => wpOp_mono (fun a' w' h' => wpAny_of_T hE k _ a' w' h') (wpOp_of_z (h.2.2 j hj).2)⟩

/-- the walk in the text's order: true: it only tells; false: it is alone -/
def wpMix (P : Program) (ops : Array Oper) (C : World → Prop) (E : Act → World → Prop) : List Bool → List Oper → Act → World → Prop
  | [], [], a, w => C w ∧ E a w
  | true :: ks, o :: l, a, w => ∃ v, StC P ops C o v a ∧ wpMix P ops C E ks l (a.put o.dst v) w
  | false :: ks, o :: l, a, w => C w ∧ ((Region.wanted o (yielded ops a.tmps) = true ∧ o.wp P a w (wpMix P ops C E ks l) Qz) ∨ (Region.wanted o (yielded ops a.tmps) = false ∧ wpMix P ops C E ks l (a.put o.dst undef) w))
  | _, _, _, _ => False
/-- nobody looks into it -/
structure MixW (P : Program) (ops : Array Oper) (C : World → Prop) (E : Act → World → Prop) (ks : List Bool) (l : List Oper) (a : Act) (w : World) : Prop where
  go : wpMix P ops C E ks l a w

def mixB (md : Region.Mode) (ops : Array Oper) (g : Nat) : List Bool → Nat → Array Bool → Bool
  | [], k, listed => Region.seqB md ops g k listed
  | true :: ks, k, listed => (Region.ready md ops listed).contains k && Region.free md ops listed k && mixB md ops g ks (k + 1) (listed.setIfInBounds k true)
  | false :: ks, k, listed => decide (Region.ready md ops listed = [k]) && mixB md ops g ks (k + 1) (listed.setIfInBounds k true)

theorem mix_lex {m g : Nat} {Lq : Act → World → Prop} (hsel : ∀ (j : Nat) (o : Oper) cs b, ops[j]? = some o → o.op ≠ .select cs b) (hT : TailWaitsB md ops m) :
    ∀ (ks : List Bool) (l : List Oper) (k : Nat) (listed : Array Bool) (a : Act) (w : World), (∀ j, j < l.length → l[j]? = ops[k + j]?) → k + l.length = m → HeadInv md ops m listed →
    mixB md ops g ks k listed = true → wpMix P ops C Lq ks l a w →
    wpAnyT P md ops C m (fun listed' a' w' => Region.seqB md ops g m listed' = true ∧ Lq a' w') l.length listed a w
  | [], [], k, listed, a, w, _, hk, _, hB, h => by
    have : k = m := by simpa using hk
    subst this
    exact ⟨h.1, seqB_ready hB, hB, h.2⟩
  | true :: ks, o :: l, k, listed, a, w, hl, hk, inv, hB, h => by
    have h0 : ops[k]? = some o := by simpa using (hl 0 (by simp)).symm
    simp only [mixB, Bool.and_eq_true] at hB
    obtain ⟨⟨hr, hf⟩, hB'⟩ := hB
    have hkm : k < m := by simp only [List.length_cons] at hk; omega
    have hr' : k ∈ Region.ready md ops listed := by simpa using hr
    obtain ⟨v, hy, h'⟩ := h
    exact wpAnyT_first h0 hkm hsel hT _ listed a w inv (Region.free_spec h0 hf) hr' hy
      (mix_lex hsel hT ks l (k + 1) _ _ w (fun j hj => by have := hl (j + 1) (by simp; omega); simpa [Nat.add_assoc, Nat.add_comm 1 j] using this) (by simp only [List.length_cons] at hk; omega) (inv.set hr' hkm) hB' h')
  | false :: ks, o :: l, k, listed, a, w, hl, hk, inv, hB, h => by
    have h0 : ops[k]? = some o := by simpa using (hl 0 (by simp)).symm
    simp only [mixB, Bool.and_eq_true, decide_eq_true_eq] at hB
    obtain ⟨hr, hB'⟩ := hB
    have hkm : k < m := by simp only [List.length_cons] at hk; omega
    obtain ⟨hc, h'⟩ := h
    refine ⟨hc, fun h1 => (by rw [hr] at h1; cases h1), fun i hi => ?_⟩
    have hi' := hi
    rw [hr] at hi
    have hik : i = k := by simpa using hi
    subst hik
    refine ⟨hkm, ?_⟩
    have rec_ : ∀ a' w', wpMix P ops C Lq ks l a' w' → wpAnyT P md ops C m (fun listed' a' w' => Region.seqB md ops g m listed' = true ∧ Lq a' w') l.length (listed.setIfInBounds i true) a' w' := fun a' w' h2 =>
      mix_lex hsel hT ks l (i + 1) _ a' w' (fun j hj => by have := hl (j + 1) (by simp; omega); simpa [Nat.add_assoc, Nat.add_comm 1 j] using this) (by simp only [List.length_cons] at hk; omega) (inv.set hi' hkm) hB' h2
    unfold wpOp
    simp only [h0]
    rcases h' with ⟨hw, h'⟩ | ⟨hw, h'⟩
    · simp only [hw, if_true]
      exact .inl (Oper.wp_mono rec_ h')
    · simp only [hw, Bool.false_eq_true, if_false]
      exact rec_ _ _ h'
  | [], _ :: _, _, _, _, _, _, _, _, _, h => h.elim
  | true :: _, [], _, _, _, _, _, _, _, _, h => h.elim
  | false :: _, [], _, _, _, _, _, _, _, _, h => h.elim

/-- the first operations by kinds, the rest one behind the other -/
theorem wp_region_m {id : Nat} {Q : Exit → Act → World → Prop} {a : Act} {w : World} {l : List Oper} (ks : List Bool) (C : World → Prop) (hm : P.follows .mixedOrders = true)
    (hB : (tailOkB l.toArray ks.length && mixB .any l.toArray (l.toArray.size - ks.length) ks 0 (Array.replicate l.toArray.size false)) = true)
    (h : MixW P l.toArray C (fun a' w' => wpList P l.toArray Q (l.drop ks.length) a' w') ks (l.take ks.length) a w.drew) : (Code.region id l.toArray true).wp P Q a w := by
  rw [Bool.and_eq_true] at hB
  obtain ⟨hok, hlex⟩ := hB
  obtain ⟨hsel, hnl, hT⟩ := tailOkB_spec hok
  have htl : (l.take ks.length).length = ks.length := by simp at hnl ⊢; omega
  have hdl : (l.drop ks.length).length = l.toArray.size - ks.length := by simp
  have H := mix_lex (P := P) (md := .any) (m := ks.length) (g := l.toArray.size - ks.length) (Region.noSelect_spec hsel) hT ks (l.take ks.length) 0 _ a w.drew (fun j hj => by
    have hj' : j < ks.length := by rw [htl] at hj; exact hj
    simp [hj']) (by rw [htl]; omega) (inv_new ks.length) hlex h.go
  refine wp_region_any hm ?_
  have := wpAny_of_T (Q := Q) (g := l.toArray.size - ks.length) (fun listed a' w' hL => by
    have := wpAny_of_seq (md := .any) (Q' := Q) (l.drop ks.length) ks.length listed a' w' (fun j => by simp [List.getElem?_drop]) (by rw [hdl]; exact hL.1) hL.2
    rwa [hdl] at this) _ _ _ _ H
  rw [htl, show ks.length + (l.toArray.size - ks.length) = l.toArray.size by omega] at this
  exact this

variable {E : Act → World → Prop} {ks : List Bool} {o : Oper} {rest : List Oper} {a : Act} {w : World}
theorem mx_skip (hw : Region.wanted o (yielded ops a.tmps) = false) (h : ∃ a', a.put o.dst undef = a' ∧ MixW P ops C E ks rest a' w) : MixW P ops C E (true :: ks) (o :: rest) a w := by
  obtain ⟨a', ha, h⟩ := h
  exact ⟨undef, .inr ⟨hw, rfl⟩, by rw [ha]; exact h.go⟩
theorem mx_val (hw : Region.wanted o (yielded ops a.tmps) = true) (h : ∃ v, (∀ w, C w → (execOp a.eval o).run P w = .ok (.value v) w) ∧ ∃ a', a.put o.dst v = a' ∧ MixW P ops C E ks rest a' w) : MixW P ops C E (true :: ks) (o :: rest) a w := by
  obtain ⟨v, hv, a', ha, h⟩ := h
  exact ⟨v, .inl ⟨hw, hv⟩, by rw [ha]; exact h.go⟩
theorem mx_move (x : Operand) (hw : Region.wanted o (yielded ops a.tmps) = true) (hop : o.op = .move x) (h : ∃ v, a.eval x = v ∧ ∃ a', a.put o.dst v = a' ∧ MixW P ops C E ks rest a' w) : MixW P ops C E (true :: ks) (o :: rest) a w := by
  obtain ⟨v, hv, h⟩ := h
  exact mx_val hw ⟨v, fun w _ => by rw [BigFrame.run_move x hop, hv], h⟩
theorem mx_assign (x : Operand) (hw : Region.wanted o (yielded ops a.tmps) = true) (hop : o.op = .assign x) (h : ∃ v, a.eval x = v ∧ ∃ a', a.put o.dst v = a' ∧ MixW P ops C E ks rest a' w) : MixW P ops C E (true :: ks) (o :: rest) a w := by
  obtain ⟨v, hv, h⟩ := h
  exact mx_val hw ⟨v, fun w _ => by rw [BigFrame.run_assign x hop, hv], h⟩
/-- alone: a value, and a world -/
theorem mx_alone (hc : C w) (hw : Region.wanted o (yielded ops a.tmps) = true) (h : ∃ v w', (execOp a.eval o).run P w = .ok (.value v) w' ∧ ∃ a', a.put o.dst v = a' ∧ MixW P ops C E ks rest a' w') : MixW P ops C E (false :: ks) (o :: rest) a w := by
  obtain ⟨v, w', hv, a', ha, h⟩ := h
  refine ⟨hc, .inl ⟨hw, ?_⟩⟩
  unfold Oper.wp
  rw [hv]
  show wpMix P ops C E ks rest (a.put o.dst v) w'
  rw [ha]
  exact h.go
/-- alone: a call -/
theorem mx_call {f : FuncId} {args : Array Value} {R : Ending → World → Prop} (hc : C w) (hw : Region.wanted o (yielded ops a.tmps) = true) (hv : (execOp a.eval o).run P w = .ok (.enter f args) w) (hcall : Calls P f args w R)
    (h : ∀ e w', R e w' → ∃ v, e = .returned v ∧ ∃ a', a.put o.dst v = a' ∧ MixW P ops C E ks rest a' w') : MixW P ops C E (false :: ks) (o :: rest) a w := by
  refine ⟨hc, .inl ⟨hw, ?_⟩⟩
  unfold Oper.wp
  rw [hv]
  refine hcall.mono fun e w' he => ?_
  obtain ⟨v, rfl, a', ha, h⟩ := h e w' he
  show wpMix P ops C E ks rest (a.put o.dst v) w'
  rw [ha]
  exact h.go
theorem mx_idle (hc : C w) (hw : Region.wanted o (yielded ops a.tmps) = false) (h : ∃ a', a.put o.dst undef = a' ∧ MixW P ops C E ks rest a' w) : MixW P ops C E (false :: ks) (o :: rest) a w := by
  obtain ⟨a', ha, h⟩ := h
  exact ⟨hc, .inr ⟨hw, by rw [ha]; exact h.go⟩⟩
theorem mx_end (hc : C w) (h : E a w) : MixW P ops C E [] [] a w := ⟨hc, h⟩
end
end Go.Proofs.YtdnljmncdbcgeaaGreat

/- A map stays where only new memory comes. No program. -/
namespace Go.Proofs.YtdnljmncdbcgeaaGreat
open Go.RowKit Go.Maps

theorem MapAt.below {P : Program} {K : TypeId} {w w' : World} {b : Nat} {L : List (List UInt8 × Value)} (h : MapAt w P K b L) (k : Below w.heap.size w w') : MapAt w' P K b L := h.block (k.block b h.lt)
end Go.Proofs.YtdnljmncdbcgeaaGreat

/- book.Book: Put. -/
namespace Go.Proofs.YtdnljmncdbcgeaaGreat
open Go.RowKit Go.Maps

/-- what a call that writes a book leaves -/
structure BookTo (w : World) (bb : Nat) (mo : Option Nat) (T : List (List UInt8 × EP)) (s : Int) (w' : World) : Prop where
  at_ : ∃ mo' L', BookAt w' bb mo' L' s ∧ Hid (plainB L' = T) ∧ ∀ m, mo' = some m → mo = some m ∨ w.heap.size ≤ m
  fr : Fr (fun g => g = bb ∨ mo = some g) w w'
theorem BookTo.of {w w' : World} {bb : Nat} {mo : Option Nat} {L : List (List UInt8 × EV)} {s : Int} (h : BookAt w bb mo L s) (k : Below w.heap.size w w') : BookTo w bb mo (plainB L) s w' :=
  ⟨⟨mo, L, h.below k, rfl, fun _ e => .inl e⟩, Fr.of_below k _⟩
theorem map_eq_nilB (w : World) (m : Option Nat) : (binOp .eql 117 (.map m) (.map none)).run Tryz.prog w = .ok (.bool m.isNone) w := run_eql_map_nil w _ _ _ m Tryz.underlying117
/-- bytes do not stand where a book stands -/
theorem By.not_book {w : World} {Z : Nat → Prop} {A : Option Addr} {l : List UInt8} {tb : Nat} {t : TypeId} {s : Int} {mo : Option Nat} (h : By w Z A l) (hb : Blk w tb t #[.int .u64 s, .map mo]) : By w (fun b => b ≠ tb) A l := by
  refine ⟨h.1, fun hn => ?_⟩
  obtain ⟨b, off, e, hz, hlt, hc⟩ := h.2 hn
  refine ⟨b, off, e, fun eb => ?_, hlt, hc⟩
  subst eb
  rcases l with _ | ⟨x, l⟩
  · simp at hn
  · have h1 := hc 0 (bv x) rfl
    rw [hb.cell, Nat.add_zero] at h1
    rcases off with _ | _ | off <;> simp [bv] at h1
/-- bytes do not stand where a map stands -/
theorem By.not_mapAt {w : World} {Z : Nat → Prop} {A : Option Addr} {l : List UInt8} {mb : Nat} {K : List (List UInt8 × Value)} (h : By w Z A l) (hm : MapAt w Tryz.prog 9 mb K) : By w (fun b => Z b ∧ b ≠ mb) A l := by
  refine ⟨h.1, fun hn => ?_⟩
  obtain ⟨b, off, e, hz, hlt, hc⟩ := h.2 hn
  refine ⟨b, off, e, ⟨hz, fun eb => ?_⟩, hlt, hc⟩
  subst eb
  rcases l with _ | ⟨x, l⟩
  · simp at hn
  · have h1 := hc 0 (bv x) rfl
    obtain ⟨D, ⟨es, clock, h2, _⟩, _⟩ := hm.own
    simp [World.cell?, h2] at h1
/-- the map written -/
theorem BookAt.stored {w w' : World} {bb mb : Nat} {L : List (List UInt8 × EV)} {s : Int} {p : List UInt8} {o : EV} (hb : Blk w bb 119 #[.int .u64 s, .map (some mb)]) (hm : MapAt w' Tryz.prog 9 mb (putR (mapB L) p o.val)) (hg : w.grownBy w' (some mb)) (hne : mb ≠ bb)
    {K : List (List UInt8 × Value)} (hm0 : MapAt w Tryz.prog 9 mb K) (hok : ∀ x ∈ L, x.2.inB w x.1) (ho : o.inB w p) (hpl : BookOk (plainB (putR L p o))) : BookAt w' bb (some mb) (putR L p o) s := by
  have f : Fr (fun g => g = mb) w w' := Fr.of_grown hg (fun k _ e => by injection e with e; exact e.symm)
  refine ⟨hb.grown hg (by simpa using hne), .inr ⟨mb, rfl, by rw [mapB_put]; exact hm⟩, fun x hx => ?_, hpl⟩
  unfold putR at hx
  rcases mem_ins.1 hx with rfl | hx
  · exact ⟨own_fr ho.own f (fun g e1 e2 => BookAt.own_map hm0 ho.own (by rw [e1, e2])), ho.p⟩
  · have hx2 := hok x (List.mem_filter.1 hx).1
    exact ⟨own_fr hx2.own f (fun g e1 e2 => BookAt.own_map hm0 hx2.own (by rw [e1, e2])), hx2.p⟩
theorem BookAt.dropped {w w' : World} {bb mb : Nat} {L : List (List UInt8 × EV)} {s : Int} {p : List UInt8} (h : BookAt w bb (some mb) L s) (hm : MapAt w' Tryz.prog 9 mb (withoutR (mapB L) p)) (hg : w.grownBy w' (some mb)) (hpl : BookOk (plainB (withoutR L p))) : BookAt w' bb (some mb) (withoutR L p) s := by
  have f : Fr (fun g => g = mb) w w' := Fr.of_grown hg (fun k _ e => by injection e with e; exact e.symm)
  refine ⟨h.blk.grown hg (fun e => h.ne e), .inr ⟨mb, rfl, by rw [mapB_without]; exact hm⟩, fun x hx => ?_, hpl⟩
  have hx2 := h.ok x (List.mem_filter.1 hx).1
  exact ⟨own_fr hx2.own f (fun g e1 e2 => h.ownT hx2.own (by decide) g e1 (.inr (by rw [e2]))), hx2.p⟩
theorem BookOk.without {T : List (List UInt8 × EP)} (h : BookOk T) (p : List UInt8) : BookOk (withoutR T p) := ⟨h.sort.without p, fun x hx => h.good x (List.mem_filter.1 hx).1, Nat.le_trans (without_len_le T p) h.len⟩
theorem BookAt.mapSome {w : World} {bb mb : Nat} {L : List (List UInt8 × EV)} {s : Int} (h : BookAt w bb (some mb) L s) : MapAt w Tryz.prog 9 mb (mapB L) := by
  rcases h.map with ⟨e, _⟩ | ⟨mb', e, hm⟩
  · cases e
  · injection e with e; subst e; exact hm
theorem BookAt.some_of {w : World} {bb : Nat} {mo : Option Nat} {L : List (List UInt8 × EV)} {s : Int} (h : BookAt w bb mo L s) (hL : L ≠ []) : ∃ mb, mo = some mb := by
  rcases h.map with ⟨_, e⟩ | ⟨mb, e, _⟩
  · exact absurd e hL
  · exact ⟨mb, e⟩

set_option maxRecDepth 100000 in
set_option maxHeartbeats 2000000 in
theorem bookPut_any (bb : Nat) (mo : Option Nat) (L : List (List UInt8 × EV)) (s : Int) (p : List UInt8) (v k : Int) (A : Option Addr) (c : Nat) (l : List UInt8) (Z : Nat → Prop) (w : World) (h : BookAt w bb mo L s) (hy : By w Z A l) (hp : p.length ≤ 1048576) (hv : 0 ≤ v ∧ v < 18446744073709551616) (hn : l.length ≤ 140737488355328) :
    Calls Tryz.prog 26 #[.pointer (some ⟨bb, 0, none⟩), .agg #[.string ⟨⟨p⟩⟩, .int .u64 v, .int .i64 k, .slice A l.length c]] w fun e w' => e = .returned (.int .i64 (putP (plainB L) p (v, k, l)).2) ∧ BookTo w bb mo (putP (plainB L) p (v, k, l)).1 s w' := by
  have HPL := Lib.hid (h.plain.put p (v, k, l))
  obtain ⟨R, hR⟩ : ∃ R, R = putP (plainB L) p (v, k, l) := ⟨_, rfl⟩
  rw [← hR]
  rw [← hR] at HPL
  obtain ⟨T, M⟩ := R
  dsimp only at HPL ⊢
  have HR := Lib.hid hR
  have HB := Lib.hid h
  have HY := Lib.hid hy
  have hb0 : Below w.heap.size w (w.alloc (.cells #[.string ⟨⟨p⟩⟩, .int .u64 v, .int .i64 k, .slice A l.length c] 59)) := (by repeat (first | exact Below.refl _ _ | refine Below.alloc ?_ (by simp) _ | refine Below.setCell ?_ (by simp) _ | refine Below.drew ?_))
  have x0 := Blk.new w 59 #[.string ⟨⟨p⟩⟩, .int .u64 v, .int .i64 k, .slice A l.length c]
  obtain ⟨C, hC⟩ : ∃ C, C = checkP p (v, k, l) := ⟨_, rfl⟩
  have HCK := Lib.hid (entryCheck_any ⟨⟨p⟩⟩ v k A l.length c (w.alloc (.cells #[.string ⟨⟨p⟩⟩, .int .u64 v, .int .i64 k, .slice A l.length c] 59)) (by show p.length ≤ _; omega) hv hn)
  rw [show checkE (tl ⟨⟨p⟩⟩) v k l.length = C from hC.symm] at HCK
  have HC := Lib.hid hC
  clear h hy hR hC
  go_enter Tryz.func26, Tryz.ntmps26
  go_wp2_with fail
  refine HCK.out.mono ?_
  rintro e w1 ⟨rfl, hb1⟩
  have hw1 := hb0.trans (hb1.mono hb0.size)
  have x1 := x0.below hb1
  clear x0 hb0 hb1 HCK
  by_cases hC0 : C = 0
  · have hCb : (C != 0) = false := by simp [hC0]
    have HC0 := Lib.hid hC0
    clear hC0
    have HR1 : Hid ((T, M) = if v ≤ ((getR (plainB L) p).map (·.1)).getD 0 then (plainB L, (31 : Int)) else if (getR (plainB L) p).isNone = true ∧ 256 ≤ (plainB L).length then ((spareB (plainB L)).elim (plainB L, (24 : Int)) fun y => (putR (withoutR (plainB L) y.1) p (v, k, l), (0 : Int))) else (putR (plainB L) p (v, k, l), 0)) := Lib.hid (by
      rw [HR.out]
      unfold putP putB
      rw [if_neg (by rw [← HC.out, HC0.out]; simp)])
    have hgood := checkP_good (p := p) (x := (v, k, l)) (by rw [← HC.out, HC0.out])
    have hvp := isV_pos hgood.2.1
    dsimp only at hvp
    rw [get_plainB, plainB_len] at HR1
    have q0 : w1.cell? ⟨w.heap.size, 0, none⟩ = some (.string ⟨⟨p⟩⟩) := x1.cell 0
    have HG := Lib.hid (bookget_any bb mo L s p w1 (HB.out.below hw1) (by simp only [maxLen]; omega))
    have HLL := Lib.hid HB.out.len
    clear HR HC HC0 hgood
    go_wp2_with fail
    refine HG.out.mono ?_
    rintro e w2 ⟨⟨o, rfl, ho⟩, hb2⟩
    have hw2 := hw1.trans (hb2.mono hw1.size)
    have x2 := x1.below hb2
    have hba : Below w2.heap.size w2 (w2.alloc (.cells #[.string o.p, .int .u64 o.v, .int .i64 o.k, .slice o.x.A o.x.l.length o.x.c] 59)) := (Below.refl _ _).alloc (Nat.le_refl _) _
    have y3 := Blk.new w2 59 #[.string o.p, .int .u64 o.v, .int .i64 o.k, .slice o.x.A o.x.l.length o.x.c]
    have x3 := x2.below hba
    have hw3 := hw2.trans (hba.mono hw2.size)
    clear q0 x1 hb2 HG
    go_upto_region 7 with (fail)
    generalize w2.alloc (.cells #[.string o.p, .int .u64 o.v, .int .i64 o.k, .slice o.x.A o.x.l.length o.x.c] 59) = w3 at *
    clear hba x2
    have r0 := y3.cell 0
    have r1 := y3.cell 1
    have r2 := y3.cell 2
    have r3 := y3.cell 3
    have q0 := x3.cell 0
    have q1 := x3.cell 1
    have q2 := x3.cell 2
    have q3 := x3.cell 3
    simp only [List.getElem?_toArray, List.getElem?_cons_zero, List.getElem?_cons_succ] at r0 r1 r2 r3 q0 q1 q2 q3
    have hmn := fun W m => map_eq_nilB W m
    rcases hg : getR L p with _ | o'
    · rw [hg] at HR1
      have HR2 : Hid ((T, M) = if 256 ≤ L.length then ((spareB (plainB L)).elim (plainB L, (24 : Int)) fun y => (putR (withoutR (plainB L) y.1) p (v, k, l), (0 : Int))) else (putR (plainB L) p (v, k, l), 0)) := Lib.hid (by
        rw [HR1.out]
        rw [if_neg (by show ¬ v ≤ 0; omega)]
        simp)
      clear HR1 ho r0 r1 r2 r3 y3 hg
      by_cases hlen : 256 ≤ L.length
      · obtain ⟨mb, rfl⟩ := HB.out.some_of (by rintro rfl; simp at hlen)
        have hB3 := HB.out.below hw3
        have hcnt := fun ty => hB3.mapSome.count (w := w3) Tryz.underlying9 (t := 117) (e := 59) Tryz.underlying117 ty
        rw [mapB_len] at hcnt
        obtain ⟨_, c1⟩ := hB3.cells
        have hl2 : decide ((256 : Int) ≤ (L.length : Int)) = true := decide_eq_true (by omega)
        have HSP := Lib.hid (bookspare_any bb mb L s w3 hB3)
        have HR3 := Lib.hid HR2.out
        rw [if_pos hlen] at HR3
        clear HR2
        go_wp2_with fail
        refine HSP.out.mono ?_
        rintro e w4 ⟨⟨oy, rfl, hoy, hoL⟩, hb4⟩
        have hw4 := hw3.trans (hb4.mono hw3.size)
        have x4 := x3.below hb4
        have hB4 := HB.out.below hw4
        obtain ⟨_, c14⟩ := hB4.cells
        rw [hoy.out] at HR3
        clear c1 hcnt HSP q0 q1 q2 q3 hB3
        rcases oy with _ | y
        · obtain ⟨rfl, rfl⟩ : T = plainB L ∧ M = 24 := by simpa using HR3.out
          clear hmn
          go_wp2_with fail
          go_ret
          exact ⟨rfl, BookTo.of HB.out hw4⟩
        · have hym := hoL.out y rfl
          obtain ⟨hT, rfl⟩ : T = putR (withoutR (plainB L) y.1) p (v, k, l) ∧ M = 0 := by simpa using HR3.out
          have HT3 : Hid (T = putR (plainB (withoutR L y.1)) p (v, k, l)) := Lib.hid (by rw [plainB_without]; exact hT)
          have hyk := HB.out.keys hym
          obtain ⟨w5, hrun5, hm5, hg5, _⟩ := hB4.mapSome.drop Tryz.underlying9 (t := 117) (e := 59) Tryz.underlying117 (txtO (some y)) (by show y.1.length ≤ _; simp only [maxLen]; omega) 0
          have hB5 := hB4.dropped (p := y.1) hm5 hg5 (by rw [plainB_without]; exact hB4.plain.without _)
          have f5 : Fr (fun g => g = mb) w4 w5 := Fr.of_grown hg5 (fun k _ e => by injection e with e; exact e.symm)
          have hmlt := HB.out.lt mb rfl
          have x5 := x4.fr f5 (by intro e; omega)
          obtain ⟨_, c15⟩ := hB5.cells
          have HY5 := Lib.hid (show By w5 (fun _ => True) A l from (((HY.out.below hw4).not_mapAt hB4.mapSome).fr f5 (fun b _ hz e => hz.2 e)).mono (fun _ _ _ => trivial))
          have hfr3 : Fr (fun g => g = bb ∨ (some mb : Option Nat) = some g) w w5 := (Fr.of_below hw4 _).trans f5 (fun x _ e => .inr (by rw [e]))
          have hLLl : (withoutR L y.1).length ≤ 256 := Nat.le_trans (without_len_le L y.1) HLL.out
          have b3 := hB5.blk
          have hm3 := hB5.mapSome
          have hok3 := hB5.ok
          have hne3 : mb ≠ bb := fun e => hB5.ne (by rw [e])
          have hx3 := x5
          have HY3 := HY5
          clear HR3 hB4 hB5 hm5 x3 x4 hT hyk hym f5
          go_wp2_with fail
          clear c14 c15 hrun5 x5 HY5 hmn
          refine wp_region_m [true, true, true, true, true, true, true, false] (fun W => Below w5.heap.size w5 W) (by kernel_rfl) (by kernel_rfl) ?_
          simp only [List.length_cons, List.length_nil, Nat.zero_add, Nat.reduceAdd, List.take_succ_cons, List.take_zero, List.drop_succ_cons, List.drop_zero]
          refine mx_move _ (by kernel_rfl) rfl ⟨_, (by ((try simp [go_sem]); (try rfl); done)), _, (by (simp only [Act.put, List.setIfInBounds_toArray, List.set_cons_zero, List.set_cons_succ]; rfl)), ?_⟩
          refine mx_val (by kernel_rfl) ⟨_, (by (intro w' hC; clear hC; (try go_simp); (try with_reducible rfl); done)), _, (by (simp only [Act.put, List.setIfInBounds_toArray, List.set_cons_zero, List.set_cons_succ]; rfl)), ?_⟩
          refine mx_val (by kernel_rfl) ⟨_, (by (intro w' hC; clear hC; (try go_simp); (try with_reducible rfl); done)), _, (by (simp only [Act.put, List.setIfInBounds_toArray, List.set_cons_zero, List.set_cons_succ]; rfl)), ?_⟩
          refine mx_val (by kernel_rfl) ⟨_, (by (intro w' hC; (have q := (b3.below hC).cell 1; simp only [List.getElem?_toArray, List.getElem?_cons_zero, List.getElem?_cons_succ] at q); clear hC; (try go_simp); (try with_reducible rfl); done)), _, (by (simp only [Act.put, List.setIfInBounds_toArray, List.set_cons_zero, List.set_cons_succ]; rfl)), ?_⟩
          refine mx_val (by kernel_rfl) ⟨_, (by (intro w' hC; clear hC; (try go_simp); (try with_reducible rfl); done)), _, (by (simp only [Act.put, List.setIfInBounds_toArray, List.set_cons_zero, List.set_cons_succ]; rfl)), ?_⟩
          refine mx_val (by kernel_rfl) ⟨_, (by (intro w' hC; (have q0 := (hx3.below hC).cell 0; have q1 := (hx3.below hC).cell 1; have q2 := (hx3.below hC).cell 2; have q3 := (hx3.below hC).cell 3; simp only [List.getElem?_toArray, List.getElem?_cons_zero, List.getElem?_cons_succ] at q0 q1 q2 q3); clear hC; (try go_simp); (try with_reducible rfl); done)), _, (by (simp only [Act.put, List.setIfInBounds_toArray, List.set_cons_zero, List.set_cons_succ]; rfl)), ?_⟩
          refine mx_val (by kernel_rfl) ⟨_, (by (intro w' hC; (have q0 := (hx3.below hC).cell 0; have q1 := (hx3.below hC).cell 1; have q2 := (hx3.below hC).cell 2; have q3 := (hx3.below hC).cell 3; simp only [List.getElem?_toArray, List.getElem?_cons_zero, List.getElem?_cons_succ] at q0 q1 q2 q3); clear hC; (try go_simp); (try with_reducible rfl); done)), _, (by (simp only [Act.put, List.setIfInBounds_toArray, List.set_cons_zero, List.set_cons_succ]; rfl)), ?_⟩
          refine mx_call ((Below.refl _ _).drew) (by kernel_rfl) ?_ (entryClone_any ⟨⟨p⟩⟩ v k A c l _ w5.drew (HY3.out.drew) hn) ?_
          · (go_simp; done)
          rintro e wa ⟨A4, c4, l4, rfl, hl4, ho4, hb4⟩
          have hlow4 : Below w5.heap.size w5 wa := (Below.refl _ _).drew.trans (hb4.mono (Nat.le_refl _))
          refine ⟨_, rfl, _, (by (simp only [Act.put, List.setIfInBounds_toArray, List.set_cons_zero, List.set_cons_succ]; rfl)), ?_⟩
          refine mx_end hlow4 ?_
          have b4 := b3.below hlow4
          have HPL4 : Hid (BookOk (plainB (putR (withoutR L y.1) p ⟨⟨⟨p⟩⟩, v, k, ⟨A4, c4, l4⟩⟩))) := Lib.hid (by
            rw [plainB_put, show EV.ep ⟨⟨⟨p⟩⟩, v, k, ⟨A4, c4, l4⟩⟩ = (v, k, l) by show (v, k, l4) = _; rw [hl4.out], ← HT3.out]
            exact HPL.out)
          have hlen3 : (mapB (withoutR L y.1)).length < maxLen := by rw [mapB_len]; simp only [maxLen]; omega
          obtain ⟨wb, hrun5, hm5, hg5, _⟩ := (hm3.below hlow4).store Tryz.underlying9 Tryz.underlying117 p (by simp only [maxLen]; omega) (.agg #[.string ⟨⟨p⟩⟩, .int .u64 v, .int .i64 k, .slice A4 l4.length c4]) hlen3
          have hlt3 := hm3.lt
          have htb3 := b3.lt
          have hoo : EV.inB wa p ⟨⟨⟨p⟩⟩, v, k, ⟨A4, c4, l4⟩⟩ := ⟨own_base ho4 (fun _ _ => Nat.zero_le _), rfl⟩
          have HD := Lib.hid (BookAt.stored (o := ⟨⟨⟨p⟩⟩, v, k, ⟨A4, c4, l4⟩⟩) b4 hm5 hg5 hne3 (hm3.below hlow4) (fun x hx => (hok3 x hx).below hlow4) hoo HPL4.out)
          have HPP : Hid (plainB (putR (withoutR L y.1) p ⟨⟨⟨p⟩⟩, v, k, ⟨A4, c4, l4⟩⟩) = T) := by show _ = _; rw [plainB_put, HT3.out]; show putR (plainB (withoutR L y.1)) p (v, k, l4) = _; rw [hl4.out]
          have hfr5 := hfr3.then_below hlow4
          clear b4 hm5 hm3 hok3 hoo ho4 b3 hx3 HY3 hl4 HPL4
          go_wp2_with fail
          go_ret
          refine ⟨rfl, ⟨some mb, _, HD.out, HPP, fun m e => by injection e with e; subst e; exact .inl rfl⟩, ?_⟩
          exact hfr5.trans (Fr.of_grown hg5 (S := fun g => some mb = some g) (fun k _ e => e)) (fun x hx e => by exact .inr e)
      · have hl2 : decide ((256 : Int) ≤ (L.length : Int)) = false := decide_eq_false (by omega)
        have HR3 := Lib.hid HR2.out
        rw [if_neg hlen] at HR3
        obtain ⟨hT, rfl⟩ : T = putR (plainB L) p (v, k, l) ∧ M = 0 := by simpa using HR3.out
        have hB3 := HB.out.below hw3
        have HT3 : Hid (T = putR (plainB L) p (v, k, l)) := Lib.hid hT
        clear HR2 HR3 hT
        rcases hB3.map with ⟨rfl, rfl⟩ | ⟨mb, rfl, hm⟩
        · have hmm := @run_makeMap Tryz.prog
          obtain ⟨_, c1⟩ := hB3.cells
          have hcnt := fun ty => (show (Builtin.len_ #[117] ty #[.map none]).run Tryz.prog w3 = .ok (.int .i64 0) w3 by kernel_rfl)
          have f1 := hB3.blk.frozen 1
          have hsz := hw3.size
          have htl := hB3.blk.lt
          have htw := HB.out.blk.lt
          have b3 : Blk ((w3.setCell ⟨bb, 1, none⟩ (.map (some w3.heap.size))).alloc (.map #[] 0)) bb 119 #[.int .u64 s, .map (some w3.heap.size)] := by simpa using (hB3.blk.set_ 1 (.map (some w3.heap.size))).alloc (.map #[] 0)
          have fS : Fr (fun g => g = bb) w3 ((w3.setCell ⟨bb, 1, none⟩ (.map (some w3.heap.size))).alloc (.map #[] 0)) := ((Fr.refl (fun g => g = bb) w3).setAt bb 1 rfl _).alloc _
          have hm3 : MapAt ((w3.setCell ⟨bb, 1, none⟩ (.map (some w3.heap.size))).alloc (.map #[] 0)) Tryz.prog 9 w3.heap.size (mapB []) := by have := MapAt.made (w3.setCell ⟨bb, 1, none⟩ (.map (some w3.heap.size))) Tryz.prog 9; rwa [show (w3.setCell ⟨bb, 1, none⟩ (.map (some w3.heap.size))).heap.size = w3.heap.size by simp [World.setCell]] at this
          have hx3 := x3.fr fS (by omega)
          have HY3 := Lib.hid (show By ((w3.setCell ⟨bb, 1, none⟩ (.map (some w3.heap.size))).alloc (.map #[] 0)) (fun _ => True) A l from (((HY.out.below hw3).not_book hB3.blk).fr fS (fun b _ hz e => hz e)).mono (fun _ _ _ => trivial))
          have hfr3 := (Fr.of_below hw3 (fun g => g = bb ∨ (none : Option Nat) = some g)).trans fS (fun x _ e => .inl e)
          have hne3 : w3.heap.size ≠ bb := by omega
          have hbig : w.heap.size ≤ w3.heap.size := hsz
          have hok3 : ∀ x ∈ ([] : List (List UInt8 × EV)), x.2.inB ((w3.setCell ⟨bb, 1, none⟩ (.map (some w3.heap.size))).alloc (.map #[] 0)) x.1 := by simp
          have hLLl : ([] : List (List UInt8 × EV)).length ≤ 256 := by simp
          go_wp2_with fail
          clear q0 q1 q2 q3 x3 f1 fS hmm c1 hmn hcnt hB3
          generalize (w3.setCell ⟨bb, 1, none⟩ (.map (some w3.heap.size))).alloc (.map #[] 0) = w6 at *
          generalize hmbe : w3.heap.size = mb at *
          clear hmbe
          refine wp_region_m [true, true, true, true, true, true, true, false] (fun W => Below w6.heap.size w6 W) (by kernel_rfl) (by kernel_rfl) ?_
          simp only [List.length_cons, List.length_nil, Nat.zero_add, Nat.reduceAdd, List.take_succ_cons, List.take_zero, List.drop_succ_cons, List.drop_zero]
          refine mx_move _ (by kernel_rfl) rfl ⟨_, (by ((try simp [go_sem]); (try rfl); done)), _, (by (simp only [Act.put, List.setIfInBounds_toArray, List.set_cons_zero, List.set_cons_succ]; rfl)), ?_⟩
          refine mx_val (by kernel_rfl) ⟨_, (by (intro w' hC; clear hC; (try go_simp); (try with_reducible rfl); done)), _, (by (simp only [Act.put, List.setIfInBounds_toArray, List.set_cons_zero, List.set_cons_succ]; rfl)), ?_⟩
          refine mx_val (by kernel_rfl) ⟨_, (by (intro w' hC; clear hC; (try go_simp); (try with_reducible rfl); done)), _, (by (simp only [Act.put, List.setIfInBounds_toArray, List.set_cons_zero, List.set_cons_succ]; rfl)), ?_⟩
          refine mx_val (by kernel_rfl) ⟨_, (by (intro w' hC; (have q := (b3.below hC).cell 1; simp only [List.getElem?_toArray, List.getElem?_cons_zero, List.getElem?_cons_succ] at q); clear hC; (try go_simp); (try with_reducible rfl); done)), _, (by (simp only [Act.put, List.setIfInBounds_toArray, List.set_cons_zero, List.set_cons_succ]; rfl)), ?_⟩
          refine mx_val (by kernel_rfl) ⟨_, (by (intro w' hC; clear hC; (try go_simp); (try with_reducible rfl); done)), _, (by (simp only [Act.put, List.setIfInBounds_toArray, List.set_cons_zero, List.set_cons_succ]; rfl)), ?_⟩
          refine mx_val (by kernel_rfl) ⟨_, (by (intro w' hC; (have q0 := (hx3.below hC).cell 0; have q1 := (hx3.below hC).cell 1; have q2 := (hx3.below hC).cell 2; have q3 := (hx3.below hC).cell 3; simp only [List.getElem?_toArray, List.getElem?_cons_zero, List.getElem?_cons_succ] at q0 q1 q2 q3); clear hC; (try go_simp); (try with_reducible rfl); done)), _, (by (simp only [Act.put, List.setIfInBounds_toArray, List.set_cons_zero, List.set_cons_succ]; rfl)), ?_⟩
          refine mx_val (by kernel_rfl) ⟨_, (by (intro w' hC; (have q0 := (hx3.below hC).cell 0; have q1 := (hx3.below hC).cell 1; have q2 := (hx3.below hC).cell 2; have q3 := (hx3.below hC).cell 3; simp only [List.getElem?_toArray, List.getElem?_cons_zero, List.getElem?_cons_succ] at q0 q1 q2 q3); clear hC; (try go_simp); (try with_reducible rfl); done)), _, (by (simp only [Act.put, List.setIfInBounds_toArray, List.set_cons_zero, List.set_cons_succ]; rfl)), ?_⟩
          refine mx_call ((Below.refl _ _).drew) (by kernel_rfl) ?_ (entryClone_any ⟨⟨p⟩⟩ v k A c l _ w6.drew (HY3.out.drew) hn) ?_
          · (go_simp; done)
          rintro e wa ⟨A4, c4, l4, rfl, hl4, ho4, hb4⟩
          have hlow4 : Below w6.heap.size w6 wa := (Below.refl _ _).drew.trans (hb4.mono (Nat.le_refl _))
          refine ⟨_, rfl, _, (by (simp only [Act.put, List.setIfInBounds_toArray, List.set_cons_zero, List.set_cons_succ]; rfl)), ?_⟩
          refine mx_end hlow4 ?_
          have b4 := b3.below hlow4
          have HPL4 : Hid (BookOk (plainB (putR ([] : List (List UInt8 × EV)) p ⟨⟨⟨p⟩⟩, v, k, ⟨A4, c4, l4⟩⟩))) := Lib.hid (by
            rw [plainB_put, show EV.ep ⟨⟨⟨p⟩⟩, v, k, ⟨A4, c4, l4⟩⟩ = (v, k, l) by show (v, k, l4) = _; rw [hl4.out], ← HT3.out]
            exact HPL.out)
          have hlen3 : (mapB ([] : List (List UInt8 × EV))).length < maxLen := by rw [mapB_len]; simp only [maxLen]; omega
          obtain ⟨wb, hrun5, hm5, hg5, _⟩ := (hm3.below hlow4).store Tryz.underlying9 Tryz.underlying117 p (by simp only [maxLen]; omega) (.agg #[.string ⟨⟨p⟩⟩, .int .u64 v, .int .i64 k, .slice A4 l4.length c4]) hlen3
          have hlt3 := hm3.lt
          have htb3 := b3.lt
          have hoo : EV.inB wa p ⟨⟨⟨p⟩⟩, v, k, ⟨A4, c4, l4⟩⟩ := ⟨own_base ho4 (fun _ _ => Nat.zero_le _), rfl⟩
          have HD := Lib.hid (BookAt.stored (o := ⟨⟨⟨p⟩⟩, v, k, ⟨A4, c4, l4⟩⟩) b4 hm5 hg5 hne3 (hm3.below hlow4) (fun x hx => (hok3 x hx).below hlow4) hoo HPL4.out)
          have HPP : Hid (plainB (putR ([] : List (List UInt8 × EV)) p ⟨⟨⟨p⟩⟩, v, k, ⟨A4, c4, l4⟩⟩) = T) := by show _ = _; rw [plainB_put, HT3.out]; show putR (plainB ([] : List (List UInt8 × EV))) p (v, k, l4) = _; rw [hl4.out]
          have hfr5 := hfr3.then_below hlow4
          clear b4 hm5 hm3 hok3 hoo ho4 b3 hx3 HY3 hl4 HPL4
          go_wp2_with fail
          go_ret
          refine ⟨rfl, ⟨some mb, _, HD.out, HPP, fun m e => by injection e with e; subst e; exact .inr hbig⟩, ?_⟩
          exact hfr5.trans (Fr.of_grown hg5 (S := fun g => some mb = some g) (fun k _ e => e)) (fun x hx e => by injection e with e; omega)
        · have hcnt := fun ty => hB3.mapSome.count (w := w3) Tryz.underlying9 (t := 117) (e := 59) Tryz.underlying117 ty
          rw [mapB_len] at hcnt
          have b3 := hB3.blk
          have hm3 := hB3.mapSome
          have hok3 := hB3.ok
          have hne3 : mb ≠ bb := fun e => hB3.ne (by rw [e])
          have hLLl := HLL.out
          have hx3 := x3
          have HY3 := Lib.hid (show By w3 (fun _ => True) A l from (HY.out.below hw3).mono (fun _ _ _ => trivial))
          have hfr3 : Fr (fun g => g = bb ∨ (some mb : Option Nat) = some g) w w3 := Fr.of_below hw3 _
          obtain ⟨_, c1⟩ := hB3.cells
          clear hB3 hm
          go_wp2_with fail
          clear q0 q1 q2 q3 x3 c1 hcnt hmn
          refine wp_region_m [true, true, true, true, true, true, true, false] (fun W => Below w3.heap.size w3 W) (by kernel_rfl) (by kernel_rfl) ?_
          simp only [List.length_cons, List.length_nil, Nat.zero_add, Nat.reduceAdd, List.take_succ_cons, List.take_zero, List.drop_succ_cons, List.drop_zero]
          refine mx_move _ (by kernel_rfl) rfl ⟨_, (by ((try simp [go_sem]); (try rfl); done)), _, (by (simp only [Act.put, List.setIfInBounds_toArray, List.set_cons_zero, List.set_cons_succ]; rfl)), ?_⟩
          refine mx_val (by kernel_rfl) ⟨_, (by (intro w' hC; clear hC; (try go_simp); (try with_reducible rfl); done)), _, (by (simp only [Act.put, List.setIfInBounds_toArray, List.set_cons_zero, List.set_cons_succ]; rfl)), ?_⟩
          refine mx_val (by kernel_rfl) ⟨_, (by (intro w' hC; clear hC; (try go_simp); (try with_reducible rfl); done)), _, (by (simp only [Act.put, List.setIfInBounds_toArray, List.set_cons_zero, List.set_cons_succ]; rfl)), ?_⟩
          refine mx_val (by kernel_rfl) ⟨_, (by (intro w' hC; (have q := (b3.below hC).cell 1; simp only [List.getElem?_toArray, List.getElem?_cons_zero, List.getElem?_cons_succ] at q); clear hC; (try go_simp); (try with_reducible rfl); done)), _, (by (simp only [Act.put, List.setIfInBounds_toArray, List.set_cons_zero, List.set_cons_succ]; rfl)), ?_⟩
          refine mx_val (by kernel_rfl) ⟨_, (by (intro w' hC; clear hC; (try go_simp); (try with_reducible rfl); done)), _, (by (simp only [Act.put, List.setIfInBounds_toArray, List.set_cons_zero, List.set_cons_succ]; rfl)), ?_⟩
          refine mx_val (by kernel_rfl) ⟨_, (by (intro w' hC; (have q0 := (hx3.below hC).cell 0; have q1 := (hx3.below hC).cell 1; have q2 := (hx3.below hC).cell 2; have q3 := (hx3.below hC).cell 3; simp only [List.getElem?_toArray, List.getElem?_cons_zero, List.getElem?_cons_succ] at q0 q1 q2 q3); clear hC; (try go_simp); (try with_reducible rfl); done)), _, (by (simp only [Act.put, List.setIfInBounds_toArray, List.set_cons_zero, List.set_cons_succ]; rfl)), ?_⟩
          refine mx_val (by kernel_rfl) ⟨_, (by (intro w' hC; (have q0 := (hx3.below hC).cell 0; have q1 := (hx3.below hC).cell 1; have q2 := (hx3.below hC).cell 2; have q3 := (hx3.below hC).cell 3; simp only [List.getElem?_toArray, List.getElem?_cons_zero, List.getElem?_cons_succ] at q0 q1 q2 q3); clear hC; (try go_simp); (try with_reducible rfl); done)), _, (by (simp only [Act.put, List.setIfInBounds_toArray, List.set_cons_zero, List.set_cons_succ]; rfl)), ?_⟩
          refine mx_call ((Below.refl _ _).drew) (by kernel_rfl) ?_ (entryClone_any ⟨⟨p⟩⟩ v k A c l _ w3.drew (HY3.out.drew) hn) ?_
          · (go_simp; done)
          rintro e wa ⟨A4, c4, l4, rfl, hl4, ho4, hb4⟩
          have hlow4 : Below w3.heap.size w3 wa := (Below.refl _ _).drew.trans (hb4.mono (Nat.le_refl _))
          refine ⟨_, rfl, _, (by (simp only [Act.put, List.setIfInBounds_toArray, List.set_cons_zero, List.set_cons_succ]; rfl)), ?_⟩
          refine mx_end hlow4 ?_
          have b4 := b3.below hlow4
          have HPL4 : Hid (BookOk (plainB (putR L p ⟨⟨⟨p⟩⟩, v, k, ⟨A4, c4, l4⟩⟩))) := Lib.hid (by
            rw [plainB_put, show EV.ep ⟨⟨⟨p⟩⟩, v, k, ⟨A4, c4, l4⟩⟩ = (v, k, l) by show (v, k, l4) = _; rw [hl4.out], ← HT3.out]
            exact HPL.out)
          have hlen3 : (mapB L).length < maxLen := by rw [mapB_len]; simp only [maxLen]; omega
          obtain ⟨wb, hrun5, hm5, hg5, _⟩ := (hm3.below hlow4).store Tryz.underlying9 Tryz.underlying117 p (by simp only [maxLen]; omega) (.agg #[.string ⟨⟨p⟩⟩, .int .u64 v, .int .i64 k, .slice A4 l4.length c4]) hlen3
          have hlt3 := hm3.lt
          have htb3 := b3.lt
          have hoo : EV.inB wa p ⟨⟨⟨p⟩⟩, v, k, ⟨A4, c4, l4⟩⟩ := ⟨own_base ho4 (fun _ _ => Nat.zero_le _), rfl⟩
          have HD := Lib.hid (BookAt.stored (o := ⟨⟨⟨p⟩⟩, v, k, ⟨A4, c4, l4⟩⟩) b4 hm5 hg5 hne3 (hm3.below hlow4) (fun x hx => (hok3 x hx).below hlow4) hoo HPL4.out)
          have HPP : Hid (plainB (putR L p ⟨⟨⟨p⟩⟩, v, k, ⟨A4, c4, l4⟩⟩) = T) := by show _ = _; rw [plainB_put, HT3.out]; show putR (plainB L) p (v, k, l4) = _; rw [hl4.out]
          have hfr5 := hfr3.then_below hlow4
          clear b4 hm5 hm3 hok3 hoo ho4 b3 hx3 HY3 hl4 HPL4
          go_wp2_with fail
          go_ret
          refine ⟨rfl, ⟨some mb, _, HD.out, HPP, fun m e => by injection e with e; subst e; exact .inl rfl⟩, ?_⟩
          exact hfr5.trans (Fr.of_grown hg5 (S := fun g => some mb = some g) (fun k _ e => e)) (fun x hx e => by exact .inr e)
    · obtain ⟨mb, rfl⟩ := HB.out.some_of (by rintro rfl; simp [getR_nil] at hg)
      rw [hg] at HR1 ho
      have ho2 : o = o' := ho.out
      have HN := Lib.hid (entryNewer_any ⟨⟨p⟩⟩ o.p v o.v k o.k (.slice A l.length c) (.slice o.x.A o.x.l.length o.x.c) w3)
      subst ho2
      by_cases hvo : o.v < v
      · have hvd : decide (o.v < v) = true := decide_eq_true hvo
        have HR3 := Lib.hid HR1.out
        rw [if_neg (by show ¬ v ≤ o.v; omega), if_neg (by simp)] at HR3
        obtain ⟨hT, rfl⟩ : T = putR (plainB L) p (v, k, l) ∧ M = 0 := by simpa using HR3.out
        have HT3 : Hid (T = putR (plainB L) p (v, k, l)) := Lib.hid hT
        rw [hvd] at HN
        clear HR1 HR3 hT ho hg hvo hvd
        go_wp2_with fail
        refine HN.out.mono ?_
        rintro e w4 ⟨rfl, hb4⟩
        have hw4 := hw3.trans (hb4.mono hw3.size)
        have x4 := x3.below hb4
        have hB4 := HB.out.below hw4
        have b3 := hB4.blk
        have hm3 := hB4.mapSome
        have hok3 := hB4.ok
        have hne3 : mb ≠ bb := fun e => hB4.ne (by rw [e])
        have hLLl := HLL.out
        have hx3 := x4
        have HY3 := Lib.hid (show By w4 (fun _ => True) A l from (HY.out.below hw4).mono (fun _ _ _ => trivial))
        have hfr3 : Fr (fun g => g = bb ∨ (some mb : Option Nat) = some g) w w4 := Fr.of_below hw4 _
        obtain ⟨_, c1⟩ := hB4.cells
        clear hB4 HN
        go_wp2_with fail
        clear q0 q1 q2 q3 r0 r1 r2 r3 y3 x3 x4 c1 hmn
        refine wp_region_m [true, true, true, true, true, true, true, false] (fun W => Below w4.heap.size w4 W) (by kernel_rfl) (by kernel_rfl) ?_
        simp only [List.length_cons, List.length_nil, Nat.zero_add, Nat.reduceAdd, List.take_succ_cons, List.take_zero, List.drop_succ_cons, List.drop_zero]
        refine mx_move _ (by kernel_rfl) rfl ⟨_, (by ((try simp [go_sem]); (try rfl); done)), _, (by (simp only [Act.put, List.setIfInBounds_toArray, List.set_cons_zero, List.set_cons_succ]; rfl)), ?_⟩
        refine mx_val (by kernel_rfl) ⟨_, (by (intro w' hC; clear hC; (try go_simp); (try with_reducible rfl); done)), _, (by (simp only [Act.put, List.setIfInBounds_toArray, List.set_cons_zero, List.set_cons_succ]; rfl)), ?_⟩
        refine mx_val (by kernel_rfl) ⟨_, (by (intro w' hC; clear hC; (try go_simp); (try with_reducible rfl); done)), _, (by (simp only [Act.put, List.setIfInBounds_toArray, List.set_cons_zero, List.set_cons_succ]; rfl)), ?_⟩
        refine mx_val (by kernel_rfl) ⟨_, (by (intro w' hC; (have q := (b3.below hC).cell 1; simp only [List.getElem?_toArray, List.getElem?_cons_zero, List.getElem?_cons_succ] at q); clear hC; (try go_simp); (try with_reducible rfl); done)), _, (by (simp only [Act.put, List.setIfInBounds_toArray, List.set_cons_zero, List.set_cons_succ]; rfl)), ?_⟩
        refine mx_val (by kernel_rfl) ⟨_, (by (intro w' hC; clear hC; (try go_simp); (try with_reducible rfl); done)), _, (by (simp only [Act.put, List.setIfInBounds_toArray, List.set_cons_zero, List.set_cons_succ]; rfl)), ?_⟩
        refine mx_val (by kernel_rfl) ⟨_, (by (intro w' hC; (have q0 := (hx3.below hC).cell 0; have q1 := (hx3.below hC).cell 1; have q2 := (hx3.below hC).cell 2; have q3 := (hx3.below hC).cell 3; simp only [List.getElem?_toArray, List.getElem?_cons_zero, List.getElem?_cons_succ] at q0 q1 q2 q3); clear hC; (try go_simp); (try with_reducible rfl); done)), _, (by (simp only [Act.put, List.setIfInBounds_toArray, List.set_cons_zero, List.set_cons_succ]; rfl)), ?_⟩
        refine mx_val (by kernel_rfl) ⟨_, (by (intro w' hC; (have q0 := (hx3.below hC).cell 0; have q1 := (hx3.below hC).cell 1; have q2 := (hx3.below hC).cell 2; have q3 := (hx3.below hC).cell 3; simp only [List.getElem?_toArray, List.getElem?_cons_zero, List.getElem?_cons_succ] at q0 q1 q2 q3); clear hC; (try go_simp); (try with_reducible rfl); done)), _, (by (simp only [Act.put, List.setIfInBounds_toArray, List.set_cons_zero, List.set_cons_succ]; rfl)), ?_⟩
        refine mx_call ((Below.refl _ _).drew) (by kernel_rfl) ?_ (entryClone_any ⟨⟨p⟩⟩ v k A c l _ w4.drew (HY3.out.drew) hn) ?_
        · (go_simp; done)
        rintro e wa ⟨A4, c4, l4, rfl, hl4, ho4, hb4⟩
        have hlow4 : Below w4.heap.size w4 wa := (Below.refl _ _).drew.trans (hb4.mono (Nat.le_refl _))
        refine ⟨_, rfl, _, (by (simp only [Act.put, List.setIfInBounds_toArray, List.set_cons_zero, List.set_cons_succ]; rfl)), ?_⟩
        refine mx_end hlow4 ?_
        have b4 := b3.below hlow4
        have HPL4 : Hid (BookOk (plainB (putR L p ⟨⟨⟨p⟩⟩, v, k, ⟨A4, c4, l4⟩⟩))) := Lib.hid (by
          rw [plainB_put, show EV.ep ⟨⟨⟨p⟩⟩, v, k, ⟨A4, c4, l4⟩⟩ = (v, k, l) by show (v, k, l4) = _; rw [hl4.out], ← HT3.out]
          exact HPL.out)
        have hlen3 : (mapB L).length < maxLen := by rw [mapB_len]; simp only [maxLen]; omega
        obtain ⟨wb, hrun5, hm5, hg5, _⟩ := (hm3.below hlow4).store Tryz.underlying9 Tryz.underlying117 p (by simp only [maxLen]; omega) (.agg #[.string ⟨⟨p⟩⟩, .int .u64 v, .int .i64 k, .slice A4 l4.length c4]) hlen3
        have hlt3 := hm3.lt
        have htb3 := b3.lt
        have hoo : EV.inB wa p ⟨⟨⟨p⟩⟩, v, k, ⟨A4, c4, l4⟩⟩ := ⟨own_base ho4 (fun _ _ => Nat.zero_le _), rfl⟩
        have HD := Lib.hid (BookAt.stored (o := ⟨⟨⟨p⟩⟩, v, k, ⟨A4, c4, l4⟩⟩) b4 hm5 hg5 hne3 (hm3.below hlow4) (fun x hx => (hok3 x hx).below hlow4) hoo HPL4.out)
        have HPP : Hid (plainB (putR L p ⟨⟨⟨p⟩⟩, v, k, ⟨A4, c4, l4⟩⟩) = T) := by show _ = _; rw [plainB_put, HT3.out]; show putR (plainB L) p (v, k, l4) = _; rw [hl4.out]
        have hfr5 := hfr3.then_below hlow4
        clear b4 hm5 hm3 hok3 hoo ho4 b3 hx3 HY3 hl4 HPL4
        go_wp2_with fail
        go_ret
        refine ⟨rfl, ⟨some mb, _, HD.out, HPP, fun m e => by injection e with e; subst e; exact .inl rfl⟩, ?_⟩
        exact hfr5.trans (Fr.of_grown hg5 (S := fun g => some mb = some g) (fun k _ e => e)) (fun x hx e => by exact .inr e)
      · have hvd : decide (o.v < v) = false := decide_eq_false hvo
        have HR3 := Lib.hid HR1.out
        rw [if_pos (by show v ≤ o.v; omega)] at HR3
        obtain ⟨rfl, rfl⟩ : T = plainB L ∧ M = 31 := by simpa using HR3.out
        rw [hvd] at HN
        clear HR1 HR3 ho hg hvo hvd
        go_wp2_with fail
        refine HN.out.mono ?_
        rintro e w4 ⟨rfl, hb4⟩
        have hw4 := hw3.trans (hb4.mono hw3.size)
        go_wp2_with fail
        go_ret
        exact ⟨rfl, BookTo.of HB.out hw4⟩
  · have hCb : (C != 0) = true := by simpa using hC0
    obtain ⟨rfl, rfl⟩ : T = plainB L ∧ M = C := by
      have := HR.out
      unfold putP putB at this
      rw [if_pos (by rw [← HC.out]; exact hC0), ← HC.out] at this
      simpa using this
    go_wp2_with fail
    go_ret
    exact ⟨rfl, BookTo.of HB.out hw1⟩

end Go.Proofs.YtdnljmncdbcgeaaGreat

/- A book's bytes read, plainly. -/
namespace Go.Proofs.YtdnljmncdbcgeaaGreat
open Go.RowKit

/-- the path of the last entry -/
def lastP (T : List (List UInt8 × EP)) : List UInt8 := (T.getLast?.map (·.1)).getD []
theorem lastP_nil : lastP [] = [] := rfl
theorem lastP_snoc (T : List (List UInt8 × EP)) (y : List UInt8 × EP) : lastP (T ++ [y]) = y.1 := by simp [lastP]
theorem intS_max (l : List UInt8) (f : Int) (most : Nat) : (intS l f (most : Int)).1 ≤ most := by
  unfold intS
  rw [if_pos (by omega)]
  simpa using readS_le l f most
theorem textS_max (l : List UInt8) (f : Int) (most : Nat) : (textS l f (most : Int)).1.length ≤ most := by
  have := intS_max l f most
  unfold textS
  dsimp only
  split
  · simp
  · split
    · simp
    · simp only [List.length_take]; omega
/-- how an entry comes of its parts -/
def entE (p : List UInt8) (n k : Nat) (t L : List UInt8) (f : Int) : ER :=
  let r4 := if checkE p n k t.length = 0 then (L, f) else failS L f 2
  if r4.2 ≠ 0 then ⟨[], 0, 0, [], r4.1, r4.2⟩ else ⟨p, n, k, t, r4.1, r4.2⟩
theorem entS_form (l : List UInt8) (f : Int) : ∃ p n k t L g, entS l f = entE p n k t L g ∧ p.length ≤ 96 ∧ n < 18446744073709551616 ∧ t.length ≤ l.length := by
  have h1 := textS_max l f 96
  have h2 := readS_le (textS l f 96).2.1 (textS l f 96).2.2 18446744073709551615
  have h3 := leafS_tlen (readS (textS l f 96).2.1 (textS l f 96).2.2 18446744073709551615).2.1 (readS (textS l f 96).2.1 (textS l f 96).2.2 18446744073709551615).2.2
  have h4 := readS_len (textS l f 96).2.1 (textS l f 96).2.2 18446744073709551615
  have h5 := textS_len l f 96
  refine ⟨_, _, _, _, _, _, rfl, h1, by omega, ?_⟩
  omega
theorem entE_cases (p : List UInt8) (n k : Nat) (t L : List UInt8) (f : Int) : (checkE p n k t.length = 0 ∧ f = 0 ∧ entE p n k t L f = ⟨p, n, k, t, L, f⟩) ∨ ∃ L' f', f' ≠ 0 ∧ entE p n k t L f = ⟨[], 0, 0, [], L', f'⟩ := by
  unfold entE
  dsimp only
  by_cases hc : checkE p n k t.length = 0
  · rw [if_pos hc]
    by_cases hf : f = 0
    · exact .inl ⟨hc, hf, by simp only; rw [if_neg (by simpa using hf)]⟩
    · exact .inr ⟨L, f, hf, by simp only; rw [if_pos hf]⟩
  · rw [if_neg hc]
    have hn : (failS L f 2).2 ≠ 0 := by
      unfold failS
      split
      · decide
      · rename_i h; intro e; exact h ⟨e, by decide⟩
    exact .inr ⟨_, _, hn, by rw [if_pos hn]⟩
theorem entS_small (l : List UInt8) (f : Int) : (entS l f).p.length ≤ 96 ∧ (entS l f).n < 18446744073709551616 ∧ (entS l f).t.length ≤ l.length := by
  obtain ⟨p, n, k, t, L, g, h, h1, h2, h3⟩ := entS_form l f
  rw [h]
  rcases entE_cases p n k t L g with ⟨_, _, e⟩ | ⟨L', f', _, e⟩
  · rw [e]; exact ⟨h1, h2, h3⟩
  · rw [e]; simp
def ER.ep (r : ER) : EP := ((r.n : Int), (r.k : Int), r.t)
theorem entS_good {l : List UInt8} {f : Int} (h0 : (entS l f).f = 0) : checkP (entS l f).p (entS l f).ep = 0 := by
  obtain ⟨p, n, k, t, L, g, h, h1, h2, h3⟩ := entS_form l f
  rw [h] at h0 ⊢
  rcases entE_cases p n k t L g with ⟨hc, _, e⟩ | ⟨L', f', hf, e⟩
  · rw [e]; exact hc
  · rw [e] at h0; exact absurd h0 hf
theorem entS_bad {l : List UInt8} {f : Int} (h0 : (entS l f).f ≠ 0) : (entS l f).p = [] := by
  obtain ⟨p, n, k, t, L, g, h, h1, h2, h3⟩ := entS_form l f
  rw [h] at h0 ⊢
  rcases entE_cases p n k t L g with ⟨hc, hg, e⟩ | ⟨L', f', hf, e⟩
  · rw [e] at h0; exact absurd hg h0
  · rw [e]
theorem failS_no {l : List UInt8} {f : Int} (h : f ≠ 0) (code : Int) : failS l f code = (l, f) := by unfold failS; rw [if_neg (fun e => h e.1)]
theorem failS_now (l : List UInt8) : failS l 0 10 = ([], 10) := rfl
/-- rows read -/
def readGo : Nat → List (List UInt8 × EP) → List UInt8 → Int → List (List UInt8 × EP) × List UInt8 × Int
  | 0, T, L, f => (T, L, f)
  | m + 1, T, L, f =>
    if f ≠ 0 then (T, L, f)
    else if (entS L f).f ≠ 0 then (T, (entS L f).L, (entS L f).f)
    else if T ≠ [] ∧ 0 ≤ cmpT (lastP T) (entS L f).p then (T, [], 10)
    else readGo m (T ++ [((entS L f).p, (entS L f).ep)]) (entS L f).L 0
theorem readGo_bad (m : Nat) (T : List (List UInt8 × EP)) (L : List UInt8) {f : Int} (h : f ≠ 0) : readGo m T L f = (T, L, f) := by
  cases m
  · rfl
  · unfold readGo; rw [if_pos h]
theorem readGo_fault {m : Nat} {T : List (List UInt8 × EP)} {L : List UInt8} (h : (entS L 0).f ≠ 0) : readGo (m + 1) T L 0 = readGo m T (entS L 0).L (entS L 0).f := by
  rw [readGo_bad _ _ _ h]
  unfold readGo
  rw [if_neg (by simp), if_pos h]
theorem readGo_order {m : Nat} {T : List (List UInt8 × EP)} {L : List UInt8} (h : (entS L 0).f = 0) (hT : T ≠ []) (hc : 0 ≤ cmpT (lastP T) (entS L 0).p) : readGo (m + 1) T L 0 = readGo m T [] 10 := by
  rw [readGo_bad m T [] (f := 10) (by decide)]
  conv => lhs; unfold readGo
  rw [if_neg (by simp), if_neg (by simpa using h), if_pos ⟨hT, hc⟩]
theorem readGo_next {m : Nat} {T : List (List UInt8 × EP)} {L : List UInt8} (h : (entS L 0).f = 0) (hc : T = [] ∨ cmpT (lastP T) (entS L 0).p < 0) : readGo (m + 1) T L 0 = readGo m (T ++ [((entS L 0).p, (entS L 0).ep)]) (entS L 0).L 0 := by
  conv => lhs; unfold readGo
  rw [if_neg (by simp), if_neg (by simpa using h), if_neg]
  rintro ⟨h1, h2⟩
  rcases hc with hc | hc
  · exact h1 hc
  · omega
/-- behind the last one -/
theorem sort_snoc {T : List (List UInt8 × EP)} {p : List UInt8} {x : EP} (hs : SortR T) (hc : T = [] ∨ cmpT (lastP T) p < 0) : SortR (T ++ [(p, x)]) := by
  unfold SortR at *
  rw [List.pairwise_append]
  refine ⟨hs, by simp, fun a ha b hb => ?_⟩
  obtain rfl := List.mem_singleton.1 hb
  rcases hc with rfl | hc
  · cases ha
  have hne : T ≠ [] := by rintro rfl; cases ha
  have h2 : T = T.dropLast ++ [T.getLast hne] := (List.dropLast_concat_getLast hne).symm
  generalize T.dropLast = D at h2
  generalize T.getLast hne = y at h2
  subst h2
  rw [lastP_snoc] at hc
  rw [List.pairwise_append] at hs
  show cmpT a.1 p < 0
  rcases List.mem_append.1 ha with h | h
  · exact ordT.trans _ _ _ (hs.2.2 a h y (by simp)) hc
  · rw [List.mem_singleton.1 h]; exact hc
theorem get_snoc {T : List (List UInt8 × EP)} {p : List UInt8} {x : EP} (hs : SortR (T ++ [(p, x)])) : getR T p = none := by
  rcases hg : getR T p with _ | y
  · rfl
  · exfalso
    have hm := getR_mem hg
    unfold SortR at hs
    rw [List.pairwise_append] at hs
    have := hs.2.2 _ hm (p, x) (by simp)
    simp [cmpT_self] at this
theorem put_snoc {T : List (List UInt8 × EP)} {p : List UInt8} {x : EP} (hs : SortR T) (hg : SortR (T ++ [(p, x)])) (hk : checkP p x = 0) (hl : T.length < 256) : putP T p x = (T ++ [(p, x)], 0) := by
  have hn := get_snoc hg
  have hv := isV_pos (checkP_good hk).2.1
  unfold putP putB
  rw [if_neg (by simpa using hk), hn, if_neg (by simp; omega), if_neg (by simp; omega)]
  congr 1
  refine SortR.ext (hs.put _ _) hg fun q => ?_
  rw [getR_put]
  by_cases h : q = p
  · subst h
    rw [if_pos rfl]
    exact (hg.get (x := (q, x)) (by simp)).symm
  · rw [if_neg h]
    rcases hq : getR T q with _ | y
    · rcases hq2 : getR (T ++ [(p, x)]) q with _ | z
      · rfl
      · exfalso
        have hm := getR_mem hq2
        rcases List.mem_append.1 hm with hm | hm
        · have := hs.get hm
          simp only at this
          rw [hq] at this
          cases this
        · have := List.mem_singleton.1 hm
          injection this with h1
          exact h h1
    · have hm := getR_mem hq
      exact (hg.get (x := (q, y)) (by simp [hm])).symm
/-- the whole: session, entries, fault -/
def readB (l : List UInt8) : Nat × List (List UInt8 × EP) × Int :=
  let r1 := readS l 0 1099511627776
  let r2 := intS r1.2.1 r1.2.2 256
  let r3 := readGo r2.1 [] r2.2.1 r2.2.2
  (r1.1, r3.1, closeS r3.2.1 r3.2.2)
end Go.Proofs.YtdnljmncdbcgeaaGreat

/- Drawn regions in an order of ours: as Mix, but the operations are told in any order that the region may have. No program. -/
namespace Go.Proofs.YtdnljmncdbcgeaaGreat
open Go.RowKit

section
variable {P : Program} {ops : Array Oper} {md : Region.Mode} {C : World → Prop}
def mixP (md : Region.Mode) (ops : Array Oper) (g m : Nat) : List (Nat × Bool) → Array Bool → Bool
  | [], listed => Region.seqB md ops g m listed
  | (k, true) :: ks, listed => decide (k < m) && (Region.ready md ops listed).contains k && Region.free md ops listed k && mixP md ops g m ks (listed.setIfInBounds k true)
  | (k, false) :: ks, listed => decide (k < m) && decide (Region.ready md ops listed = [k]) && mixP md ops g m ks (listed.setIfInBounds k true)
theorem mix_perm {m g : Nat} {Lq : Act → World → Prop} (hsel : ∀ (j : Nat) (o : Oper) cs b, ops[j]? = some o → o.op ≠ .select cs b) (hT : TailWaitsB md ops m) :
    ∀ (ks : List (Nat × Bool)) (l : List Oper) (listed : Array Bool) (a : Act) (w : World), l.map some = ks.map (fun x => ops[x.1]?) → HeadInv md ops m listed →
    mixP md ops g m ks listed = true → wpMix P ops C Lq (ks.map (·.2)) l a w →
    wpAnyT P md ops C m (fun listed' a' w' => Region.seqB md ops g m listed' = true ∧ Lq a' w') l.length listed a w
  | [], [], listed, a, w, _, _, hB, h => ⟨h.1, seqB_ready hB, hB, h.2⟩
  | (k, true) :: ks, o :: l, listed, a, w, hl, inv, hB, h => by
    simp only [List.map_cons, List.cons.injEq] at hl
    have h0 : ops[k]? = some o := hl.1.symm
    simp only [mixP, Bool.and_eq_true, decide_eq_true_eq] at hB
    obtain ⟨⟨⟨hkm, hr⟩, hf⟩, hB'⟩ := hB
    have hr' : k ∈ Region.ready md ops listed := by simpa using hr
    obtain ⟨v, hy, h'⟩ := h
    exact wpAnyT_first h0 hkm hsel hT _ listed a w inv (Region.free_spec h0 hf) hr' hy (mix_perm hsel hT ks l _ _ w hl.2 (inv.set hr' hkm) hB' h')
  | (k, false) :: ks, o :: l, listed, a, w, hl, inv, hB, h => by
    simp only [List.map_cons, List.cons.injEq] at hl
    have h0 : ops[k]? = some o := hl.1.symm
    simp only [mixP, Bool.and_eq_true, decide_eq_true_eq] at hB
    obtain ⟨⟨hkm, hr⟩, hB'⟩ := hB
    obtain ⟨hc, h'⟩ := h
    refine ⟨hc, fun h1 => (by rw [hr] at h1; cases h1), fun i hi => ?_⟩
    have hi' := hi
    rw [hr] at hi
    have hik : i = k := by simpa using hi
    subst hik
    refine ⟨hkm, ?_⟩
    have rec_ : ∀ a' w', wpMix P ops C Lq (ks.map (·.2)) l a' w' → wpAnyT P md ops C m (fun listed' a' w' => Region.seqB md ops g m listed' = true ∧ Lq a' w') l.length (listed.setIfInBounds i true) a' w' := fun a' w' h2 =>
      mix_perm hsel hT ks l _ a' w' hl.2 (inv.set hi' hkm) hB' h2
    unfold wpOp
    simp only [h0]
    rcases h' with ⟨hw, h'⟩ | ⟨hw, h'⟩
    · simp only [hw, if_true]
      exact .inl (Oper.wp_mono rec_ h')
    · simp only [hw, Bool.false_eq_true, if_false]
      exact rec_ _ _ h'
  | [], _ :: _, _, _, _, hl, _, _, _ => by simp at hl
  | (_, true) :: _, [], _, _, _, hl, _, _, _ => by simp at hl
  | (_, false) :: _, [], _, _, _, hl, _, _, _ => by simp at hl
theorem filterMap_some (l : List Oper) : ∀ (ks : List (Nat × Bool)), ks.all (fun x => decide (x.1 < l.length)) = true → (ks.filterMap fun x => l[x.1]?).map some = ks.map (fun x => l.toArray[x.1]?)
  | [], _ => rfl
  | x :: ks, h => by
    simp only [List.all_cons, Bool.and_eq_true, decide_eq_true_eq] at h
    have ih := filterMap_some l ks h.2
    rw [List.filterMap_cons, List.getElem?_eq_getElem h.1]
    simp only [List.map_cons]
    rw [ih, show l.toArray[x.1]? = some l[x.1] by simp [h.1]]
/-- the first operations in an order of ours, by kinds; the rest one behind the other -/
theorem wp_region_p {id : Nat} {Q : Exit → Act → World → Prop} {a : Act} {w : World} {l : List Oper} (ks : List (Nat × Bool)) (C : World → Prop) (hm : P.follows .mixedOrders = true)
    (hB : (ks.all (fun x => decide (x.1 < l.length)) && tailOkB l.toArray ks.length && mixP .any l.toArray (l.toArray.size - ks.length) ks.length ks (Array.replicate l.toArray.size false)) = true)
    (h : MixW P l.toArray C (fun a' w' => wpList P l.toArray Q (l.drop ks.length) a' w') (ks.map (·.2)) (ks.filterMap fun x => l[x.1]?) a w.drew) : (Code.region id l.toArray true).wp P Q a w := by
  rw [Bool.and_eq_true, Bool.and_eq_true] at hB
  obtain ⟨⟨hall, hok⟩, hlex⟩ := hB
  obtain ⟨hsel, hnl, hT⟩ := tailOkB_spec hok
  have hfm := filterMap_some l ks hall
  have hfl : (ks.filterMap fun x => l[x.1]?).length = ks.length := by simpa using congrArg List.length hfm
  have hdl : (l.drop ks.length).length = l.toArray.size - ks.length := by simp
  have H := mix_perm (P := P) (md := .any) (m := ks.length) (g := l.toArray.size - ks.length) (Region.noSelect_spec hsel) hT ks _ _ a w.drew hfm (inv_new ks.length) hlex h.go
  refine wp_region_any hm ?_
  have := wpAny_of_T (Q := Q) (g := l.toArray.size - ks.length) (fun listed a' w' hL => by
    have := wpAny_of_seq (md := .any) (Q' := Q) (l.drop ks.length) ks.length listed a' w' (fun j => by simp [List.getElem?_drop]) (by rw [hdl]; exact hL.1) hL.2
    rwa [hdl] at this) _ _ _ _ H
  rw [hfl, show ks.length + (l.toArray.size - ks.length) = l.toArray.size by simp at hnl ⊢; omega] at this
  exact this
end
end Go.Proofs.YtdnljmncdbcgeaaGreat

/- book: Read. -/
namespace Go.Proofs.YtdnljmncdbcgeaaGreat
open Go.RowKit Go.Maps

/-- an eye and a book -/
structure BkEye (w0 w : World) (eb : Nat) (L : List UInt8) (f : Int) (bb : Nat) (mo : Option Nat) (LL : List (List UInt8 × EV)) (S : Int) : Prop where
  e : ∃ A c, EyeAt w 164 eb (fun b => b < w0.heap.size) A c L f
  b : BookAt w bb mo LL S
  low : Below w0.heap.size w0 w
  he : w0.heap.size ≤ eb
  hb : w0.heap.size ≤ bb
  hm : ∀ m, mo = some m → w0.heap.size ≤ m
theorem BkEye.z {w0 w : World} {eb : Nat} {L : List UInt8} {f : Int} {bb : Nat} {mo : Option Nat} {LL : List (List UInt8 × EV)} {S : Int} (h : BkEye w0 w eb L f bb mo LL S) : ¬ (fun b => b < w0.heap.size) eb := by have := h.he; simp; omega
theorem BkEye.mem {w0 w w' : World} {eb : Nat} {L : List UInt8} {f : Int} {bb : Nat} {mo : Option Nat} {LL : List (List UInt8 × EV)} {S : Int} (h : BkEye w0 w eb L f bb mo LL S) (k : Below w.heap.size w w') : BkEye w0 w' eb L f bb mo LL S := by
  obtain ⟨⟨A, c, e⟩, b, l, h1, h2, h3⟩ := h
  exact ⟨⟨A, c, e.below k⟩, b.below k, l.trans (k.mono l.size), h1, h2, h3⟩
theorem BkEye.eye {w0 w w' : World} {eb : Nat} {L L' : List UInt8} {f f' : Int} {bb : Nat} {mo : Option Nat} {LL : List (List UInt8 × EV)} {S : Int} (h : BkEye w0 w eb L f bb mo LL S) (k : EyeTo w 164 eb (fun b => b < w0.heap.size) L' f' w') : BkEye w0 w' eb L' f' bb mo LL S := by
  obtain ⟨⟨A, c, e⟩, b, l, h1, h2, h3⟩ := h
  exact ⟨k.at_, b.fr_blk e.1 (by decide) (by decide) k.fr, l.trans (k.fr.below l.size (fun x _ e => by omega)), h1, h2, h3⟩
theorem BkEye.book {w0 w w' : World} {eb : Nat} {L : List UInt8} {f : Int} {bb : Nat} {mo : Option Nat} {LL : List (List UInt8 × EV)} {S : Int} {T : List (List UInt8 × EP)} (h : BkEye w0 w eb L f bb mo LL S) (k : BookTo w bb mo T S w') : ∃ mo' LL', BkEye w0 w' eb L f bb mo' LL' S ∧ Hid (plainB LL' = T) := by
  obtain ⟨⟨A, c, e⟩, b, l, h1, h2, h3⟩ := h
  obtain ⟨⟨mo', L', hB, hL, hm⟩, hf⟩ := k
  refine ⟨mo', L', ⟨⟨A, c, e.fr hf (b.notB e.1 (by decide)) (fun x hx hz hs => ?_)⟩, hB, l.trans (hf.below l.size (fun x hx hs => ?_)), h1, h2, fun m e => ?_⟩, hL⟩
  · rcases hs with hs | hs
    · have : x < w0.heap.size := hz; omega
    · have h4 := h3 _ hs; have : x < w0.heap.size := hz; omega
  · rcases hs with hs | hs
    · omega
    · have h4 := h3 _ hs; omega
  · rcases hm m e with h4 | h4
    · exact h3 m h4
    · have := l.size; omega
theorem lastP_ne {T : List (List UInt8 × EP)} (h : BookOk T) (hT : T ≠ []) : lastP T ≠ [] := by
  have h2 : T = T.dropLast ++ [T.getLast hT] := (List.dropLast_concat_getLast hT).symm
  have hm : T.getLast hT ∈ T := List.getLast_mem hT
  rw [h2, lastP_snoc]
  exact goodB_ne (userB_good (checkP_good (h.good _ hm)).1)
/-- what Read tells -/
def BookRd (w : World) (l : List UInt8) (e : Ending) (w' : World) : Prop :=
  ((readB l).2.2 = 0 ∧ ∃ bb mo LL, e = .returned (.tuple #[.pointer (some ⟨bb, 0, none⟩), .int .i64 0]) ∧ BookAt w' bb mo LL ((readB l).1 : Int) ∧ Hid (plainB LL = (readB l).2.1) ∧ w.heap.size ≤ bb ∧ (∀ m, mo = some m → w.heap.size ≤ m)) ∨
  ((readB l).2.2 ≠ 0 ∧ e = .returned (.tuple #[.pointer none, .int .i64 (readB l).2.2]))

set_option maxRecDepth 100000 in
set_option maxHeartbeats 4000000 in
theorem bookRead_any (A : Option Addr) (c : Nat) (l : List UInt8) (w : World) (h : By w (fun b => b < w.heap.size) A l) (h1 : l.length ≤ c) (h2 : c ≤ maxLen) (hl : l.length ≤ 140737488355328) :
    Calls Tryz.prog 28 #[.slice A l.length c] w fun e w' => BookRd w l e w' ∧ Below w.heap.size w w' := by
  have he1 := EyeAt.new w (T := 164) h h1 h2
  have hba : Below w.heap.size w (w.alloc (.cells #[.slice A l.length c, .int .i64 0] 164)) := (Below.refl _ _).alloc (Nat.le_refl _) _
  obtain ⟨r1, hr1⟩ : ∃ r, r = readS l 0 1099511627776 := ⟨_, rfl⟩
  have hl1 := readS_len l 0 1099511627776
  rw [← hr1] at hl1
  obtain ⟨S0, L1, f1⟩ := r1
  dsimp only at hl1
  obtain ⟨r2, hr2⟩ : ∃ r, r = intS L1 f1 256 := ⟨_, rfl⟩
  have hl2 := intS_len L1 f1 256
  have hn2 := intS_max L1 f1 256
  rw [show ((256 : Nat) : Int) = 256 from rfl] at hn2
  rw [← hr2] at hl2 hn2
  obtain ⟨n, L2, f2⟩ := r2
  dsimp only at hl2 hn2
  have HRB : Hid (readB l = (S0, (readGo n [] L2 f2).1, closeS (readGo n [] L2 f2).2.1 (readGo n [] L2 f2).2.2)) := Lib.hid (by
    unfold readB
    rw [← hr1]
    dsimp only
    rw [← hr2])
  have HR1 := Lib.hid hr1.symm
  have HR2 := Lib.hid hr2.symm
  have HZ : Hid (¬ (fun b => b < w.heap.size) w.heap.size) := Lib.hid (by simp)
  have HE1 := Lib.hid he1
  clear hr1 hr2 h he1
  go_enter Tryz.func28, Tryz.ntmps28
  go_wp2_with fail
  refine (open_any A c l.length w).mono ?_
  rintro e w1 ⟨rfl, rfl⟩
  generalize w.alloc (.cells #[.slice A l.length c, .int .i64 0] 164) = w1 at *
  have HNM := Lib.hid (eyeNum_any w.heap.size _ A c l 0 1099511627776 w1 HE1.out HZ.out)
  rw [HR1.out] at HNM
  go_wp2_with fail
  refine HNM.out.mono ?_
  rintro e w2 ⟨rfl, ht2⟩
  dsimp only at ht2 ⊢
  have hw2 : Below w.heap.size w w2 := hba.trans (ht2.fr.below hba.size (fun x _ e => by omega))
  have hbb : Below w2.heap.size w2 (w2.alloc (.cells #[.int .u64 (S0 : Int), .map none] 119)) := (Below.refl _ _).alloc (Nat.le_refl _) _
  have hB3 : BookAt (w2.alloc (.cells #[.int .u64 (S0 : Int), .map none] 119)) w2.heap.size none [] (S0 : Int) := ⟨Blk.new w2 119 _, .inl ⟨rfl, rfl⟩, by simp, BookOk.nil⟩
  obtain ⟨A2, c2, hA2⟩ := ht2.at_
  have hK3 : BkEye w (w2.alloc (.cells #[.int .u64 (S0 : Int), .map none] 119)) w.heap.size L1 f1 w2.heap.size none [] (S0 : Int) := ⟨⟨A2, c2, hA2.below hbb⟩, hB3, hw2.trans (hbb.mono hw2.size), Nat.le_refl _, hw2.size, by simp⟩
  obtain ⟨S, hS⟩ : ∃ S, S = (S0 : Int) := ⟨_, rfl⟩
  rw [← hS] at hK3
  have HSS := Lib.hid hS
  obtain ⟨A3, c3, hA3⟩ := hK3.e
  have HIT := Lib.hid (int_any w.heap.size _ A3 c3 L1 f1 256 _ hA3 HZ.out (by decide))
  rw [HR2.out] at HIT
  have HK3 := Lib.hid hK3
  clear HE1 HNM hbb hba ht2 hB3 hA2 hw2 hA3 hK3
  go_upto_region 4 with (fail)
  rw [← hS]
  generalize w2.alloc (.cells #[.int .u64 S, .map none] 119) = w3 at *
  obtain ⟨bb, hbb⟩ : ∃ bb, bb = w2.heap.size := ⟨_, rfl⟩
  rw [← hbb] at HK3 ⊢
  clear hbb hS
  go_wp2_with fail
  refine HIT.out.mono ?_
  rintro e w4 ⟨rfl, ht4⟩
  have HK4 := Lib.hid (HK3.out.eye ht4)
  clear HIT ht4 HK3
  go_wp2_with fail
  go_loopw [6, 7] (fun lv iv wr => ∃ (m : Nat) (T : List (List UInt8 × EP)) (L : List UInt8) (f : Int) (last : ByteArray) (mo : Option Nat) (LL : List (List UInt8 × EV)), iv = .int .i64 (m : Int) ∧ lv = .string last ∧ m ≤ 256 ∧ Hid (readGo n [] L2 f2 = readGo m T L f) ∧ BkEye w wr w.heap.size L f bb mo LL S ∧ Hid (f = 0 → plainB LL = T ∧ tl last = lastP T ∧ T.length + m = n) ∧ L.length ≤ l.length ∧ (tl last).length ≤ 96) (fun _ iv _ => (intOf iv).toNat)
  case atStart => exact ⟨n, [], L2, f2, ⟨#[]⟩, none, [], rfl, rfl, hn2, rfl, HK4.out, fun _ => ⟨rfl, rfl, by simp⟩, by omega, by decide⟩
  case round =>
    obtain ⟨m, T, L, f, ⟨⟨lq⟩⟩, mo, LL, rfl, rfl, hm, hgo, hK, hf, hL, hlq⟩ := hrel
    replace hlq : lq.length ≤ 96 := hlq
    obtain ⟨A4, c4, hA4⟩ := hK.e
    have HFT := Lib.hid (fault_any w.heap.size _ A4 c4 L f wr hA4)
    have HKR := Lib.hid hK
    have helt := hA4.1.lt
    clear HK4
    by_cases hmf : 0 < m ∧ f = 0
    · obtain ⟨hm0, rfl⟩ := hmf
      obtain ⟨m, rfl⟩ : ∃ k, m = k + 1 := ⟨m - 1, by omega⟩
      obtain ⟨hpl, hlast, hlen⟩ := hf.out rfl
      replace hlast : lq = lastP T := hlast
      have hok : BookOk T := by rw [← hpl]; exact hK.b.plain
      have hrd := entryRead_any w.heap.size _ A4 c4 L 0 wr hA4 HZ.out (by omega)
      have hsm := entS_small L 0
      have hgd := @entS_good L 0
      have hbd := @entS_bad L 0
      have hln := entS_len L 0
      have hg1 := @readGo_fault m T L
      have hg2 := @readGo_order m T L
      have hg3 := @readGo_next m T L
      obtain ⟨r, hr⟩ : ∃ r, r = entS L 0 := ⟨_, rfl⟩
      rw [← hr] at hrd hsm hgd hbd hln hg1 hg2 hg3
      obtain ⟨hs1, hs2, hs3⟩ := hsm
      have HRD := Lib.hid hrd
      have HGD := Lib.hid hgd
      have HBD := Lib.hid hbd
      have HG1 := Lib.hid hg1
      have HG2 := Lib.hid hg2
      have HG3 := Lib.hid hg3
      have HPL := Lib.hid hpl
      have HLS := Lib.hid hlast
      have HOK := Lib.hid hok
      clear hrd hgd hbd hg1 hg2 hg3 hpl hlast hok hr hf hA4
      go_wp2_with fail
      refine HFT.out.mono ?_
      rintro e wf ⟨rfl, rfl⟩
      go_wp2_with fail
      refine HRD.out.mono ?_
      rintro e w5 ⟨⟨⟨q⟩⟩, A5, c5, l5, rfl, hq, hl5, ho5, ht5⟩
      have HQ : Hid (q = r.p) := Lib.hid hq.out
      have hql : q.length ≤ 96 := by rw [HQ.out]; exact hs1
      have hl5l : l5.length ≤ 140737488355328 := by rw [hl5.out]; omega
      have hK5 := hK.eye ht5
      have hba : Below w5.heap.size w5 (w5.alloc (.cells #[.string ⟨⟨q⟩⟩, .int .u64 (r.n : Int), .int .i64 (r.k : Int), .slice A5 l5.length c5] 59)) := (Below.refl _ _).alloc (Nat.le_refl _) _
      have z6 := Blk.new w5 59 #[.string ⟨⟨q⟩⟩, .int .u64 (r.n : Int), .int .i64 (r.k : Int), .slice A5 l5.length c5]
      have HK6 := Lib.hid (hK5.mem hba)
      have HO6 := Lib.hid (ho5.below hba)
      clear hK hK5 hq ho5 ht5 HFT HRD HKR
      go_upto_region 8 with (fail)
      generalize w5.alloc (.cells #[.string ⟨⟨q⟩⟩, .int .u64 (r.n : Int), .int .i64 (r.k : Int), .slice A5 l5.length c5] 59) = w6 at *
      clear hba
      by_cases hC : T ≠ [] ∧ 0 ≤ cmpT lq q
      · obtain ⟨hT, hcm⟩ := hC
        have hqn : (lq != []) = true := by
          have := lastP_ne HOK.out hT
          rw [← HLS.out] at this
          simpa using this
        have hq2 : ¬ lq = [] := by simpa using hqn
        have hq3 : (lq == []) = false := by simpa using hqn
        obtain ⟨T', hT'⟩ : ∃ T', T' = T := ⟨_, rfl⟩
        obtain ⟨L7, f7, hf7⟩ : ∃ L7 f7, (failS r.L r.f 10) = (L7, f7) := ⟨_, _, rfl⟩
        have hf70 : f7 ≠ 0 := by
          unfold failS at hf7
          split at hf7
          · injection hf7 with _ e2; rw [← e2]; decide
          · rename_i h3
            injection hf7 with _ e2
            rw [← e2]
            intro e4
            exact h3 ⟨e4, by decide⟩
        have hL7 : L7.length ≤ l.length := by
          have := failS_len r.L r.f 10
          rw [hf7] at this
          simp only at this
          omega
        have HG : Hid (readGo n [] L2 f2 = readGo m T' L7 f7) := Lib.hid (by
          rw [hgo.out, hT']
          by_cases hrf : r.f = 0
          · rw [HG2.out hrf hT (by rw [← HLS.out, ← HQ.out]; exact hcm)]
            rw [hrf, failS_now] at hf7
            injection hf7 with e1 e2
            rw [e1, e2]
          · rw [HG1.out hrf]
            rw [failS_no hrf] at hf7
            injection hf7 with e1 e2
            rw [e1, e2])
        have HF : Hid (f7 = 0 → (putP T q ((r.n : Int), (r.k : Int), r.t)).1 = T' ∧ q = lastP T' ∧ T'.length + m = n) := Lib.hid (fun e => absurd e hf70)
        have HF7 := Lib.hid hf7
        have HCP := Lib.hid (compare_any ⟨⟨lq⟩⟩ ⟨⟨q⟩⟩ (by show lq.length ≤ _; omega) (by show q.length ≤ _; omega) w6)
        rw [show cmpT (tl ⟨⟨lq⟩⟩) (tl ⟨⟨q⟩⟩) = cmpT lq q from rfl] at HCP
        generalize cmpT lq q = cm at *
        have hcd : decide (0 ≤ cm) = true := decide_eq_true hcm
        have p0 := z6.cell 0
        have p1 := z6.cell 1
        have p2 := z6.cell 2
        have p3 := z6.cell 3
        simp only [List.getElem?_toArray, List.getElem?_cons_zero, List.getElem?_cons_succ] at p0 p1 p2 p3
        clear hf7 hf70 hT' hT hcm HLS
        go_wp2_with fail
        refine HCP.out.mono ?_
        rintro e w7 ⟨rfl, hq7⟩
        have hK7 := HK6.out.mem hq7.below
        obtain ⟨A7, c7, hA7⟩ := hK7.e
        have HFL := Lib.hid (fail_any w.heap.size _ A7 c7 r.L r.f 10 w7 hA7)
        rw [HF7.out] at HFL
        have z7 := z6.below hq7.below
        have HO7 := Lib.hid (HO6.out.below hq7.below)
        clear HCP p0 p1 p2 p3 hA7 z6 HO6 HK6
        go_wp2_with fail
        refine HFL.out.mono ?_
        rintro e w8 ⟨rfl, ht8⟩
        have HK8 := Lib.hid (hK7.eye ht8)
        have z8 := z7.fr ht8.fr (fun e => by have := z7.ne_ (hK7.e.choose_spec.choose_spec).1 (by decide); omega)
        have HY8 := Lib.hid ((HO7.out.fr ht8.fr (fun g hg e => by have := (HO7.out.lt g hg).1; omega)).rd)
        clear HFL hK7 ht8 z7 HO7
        have HPT := Lib.hid (bookPut_any bb mo LL S q (r.n : Int) (r.k : Int) A5 c5 l5 _ w8 HK8.out.b HY8.out (by omega) ⟨by omega, by omega⟩ (by omega))
        have HBK := Lib.hid HK8.out
        have p0 := z8.cell 0
        have p1 := z8.cell 1
        have p2 := z8.cell 2
        have p3 := z8.cell 3
        simp only [List.getElem?_toArray, List.getElem?_cons_zero, List.getElem?_cons_succ] at p0 p1 p2 p3
        go_wp2_with fail
        refine HPT.out.mono ?_
        rintro e w9 ⟨rfl, hto⟩
        obtain ⟨mo', LL', hK9, hL9⟩ := HBK.out.book hto
        have HF9 : Hid (f7 = 0 → plainB LL' = T' ∧ tl ⟨⟨q⟩⟩ = lastP T' ∧ T'.length + m = n) := Lib.hid (fun e => by
          obtain ⟨e1, e2, e3⟩ := HF.out e
          refine ⟨?_, e2, e3⟩
          rw [hL9.out, HPL.out, hl5.out]
          exact e1)
        clear HPT hto p0 p1 p2 p3
        go_wp2_with fail
        go_roundw
        case rel => exact ⟨m, T', L7, f7, ⟨⟨q⟩⟩, mo', LL', by go_num, rfl, by omega, HG.out, hK9, HF9.out, by omega, by show q.length ≤ _; omega⟩
        case measure => simp [intOf]
      · have hC2 : T = [] ∨ cmpT (lastP T) r.p < 0 := by
          by_cases h : T = []
          · exact .inl h
          · refine .inr ?_
            have h3 : ¬ 0 ≤ cmpT lq q := fun e => hC ⟨h, e⟩
            rw [← HLS.out, ← HQ.out]
            omega
        obtain ⟨T', hT'⟩ : ∃ T', T' = if r.f = 0 then T ++ [(r.p, r.ep)] else T := ⟨_, rfl⟩
        have HG : Hid (readGo n [] L2 f2 = readGo m T' r.L r.f) := Lib.hid (by
          rw [hgo.out, hT']
          by_cases hrf : r.f = 0
          · rw [HG3.out hrf hC2, if_pos hrf, hrf]
          · rw [HG1.out hrf, if_neg hrf])
        have HF : Hid (r.f = 0 → (putP T q ((r.n : Int), (r.k : Int), r.t)).1 = T' ∧ q = lastP T' ∧ T'.length + m = n) := Lib.hid (fun hrf => by
          rw [hT', if_pos hrf, HQ.out, lastP_snoc]
          have hg := sort_snoc (x := r.ep) HOK.out.sort hC2
          have := put_snoc HOK.out.sort hg (HGD.out hrf) (by omega)
          refine ⟨by rw [show (((r.n : Int), (r.k : Int), r.t) : EP) = r.ep from rfl, this], rfl, by simp; omega⟩)
        have HY6 := Lib.hid HO6.out.rd
        have hrL : r.L.length ≤ l.length := by omega
        by_cases hT : T = []
        · obtain rfl : lq = [] := by rw [HLS.out, hT]; rfl
          clear hT' hT hC hC2 HLS
          have HPT := Lib.hid (bookPut_any bb mo LL S q (r.n : Int) (r.k : Int) A5 c5 l5 _ w6 HK6.out.b HY6.out (by omega) ⟨by omega, by omega⟩ (by omega))
          have HBK := Lib.hid HK6.out
          have p0 := z6.cell 0
          have p1 := z6.cell 1
          have p2 := z6.cell 2
          have p3 := z6.cell 3
          simp only [List.getElem?_toArray, List.getElem?_cons_zero, List.getElem?_cons_succ] at p0 p1 p2 p3
          go_wp2_with fail
          refine HPT.out.mono ?_
          rintro e w9 ⟨rfl, hto⟩
          obtain ⟨mo', LL', hK9, hL9⟩ := HBK.out.book hto
          have HF9 : Hid (r.f = 0 → plainB LL' = T' ∧ tl ⟨⟨q⟩⟩ = lastP T' ∧ T'.length + m = n) := Lib.hid (fun e => by
            obtain ⟨e1, e2, e3⟩ := HF.out e
            refine ⟨?_, e2, e3⟩
            rw [hL9.out, HPL.out, hl5.out]
            exact e1)
          clear HPT hto p0 p1 p2 p3
          go_wp2_with fail
          go_roundw
          case rel => exact ⟨m, T', r.L, r.f, ⟨⟨q⟩⟩, mo', LL', by go_num, rfl, by omega, HG.out, hK9, HF9.out, by omega, by show q.length ≤ _; omega⟩
          case measure => simp [intOf]
        · have hqn : (lq != []) = true := by
            have := lastP_ne HOK.out hT
            rw [← HLS.out] at this
            simpa using this
          have hq2 : ¬ lq = [] := by simpa using hqn
          have hq3 : (lq == []) = false := by simpa using hqn
          have hcm : cmpT lq q < 0 := by
            have h3 : ¬ 0 ≤ cmpT lq q := fun e => hC ⟨hT, e⟩
            omega
          have HCP := Lib.hid (compare_any ⟨⟨lq⟩⟩ ⟨⟨q⟩⟩ (by show lq.length ≤ _; omega) (by show q.length ≤ _; omega) w6)
          rw [show cmpT (tl ⟨⟨lq⟩⟩) (tl ⟨⟨q⟩⟩) = cmpT lq q from rfl] at HCP
          clear hC hC2 hT' hT HLS
          generalize cmpT lq q = cm at *
          have hcd : decide (0 ≤ cm) = false := decide_eq_false (by omega)
          have p0 := z6.cell 0
          have p1 := z6.cell 1
          have p2 := z6.cell 2
          have p3 := z6.cell 3
          simp only [List.getElem?_toArray, List.getElem?_cons_zero, List.getElem?_cons_succ] at p0 p1 p2 p3
          go_wp2_with fail
          refine HCP.out.mono ?_
          rintro e w7 ⟨rfl, hq7⟩
          have HK7 := Lib.hid (HK6.out.mem hq7.below)
          have z7 := z6.below hq7.below
          have HY7 := Lib.hid (HO6.out.below hq7.below).rd
          clear HCP p0 p1 p2 p3 z6 HO6 HK6 HY6
          have HPT := Lib.hid (bookPut_any bb mo LL S q (r.n : Int) (r.k : Int) A5 c5 l5 _ w7 HK7.out.b HY7.out (by omega) ⟨by omega, by omega⟩ (by omega))
          have HBK := Lib.hid HK7.out
          have p0 := z7.cell 0
          have p1 := z7.cell 1
          have p2 := z7.cell 2
          have p3 := z7.cell 3
          simp only [List.getElem?_toArray, List.getElem?_cons_zero, List.getElem?_cons_succ] at p0 p1 p2 p3
          go_wp2_with fail
          refine HPT.out.mono ?_
          rintro e w9 ⟨rfl, hto⟩
          obtain ⟨mo', LL', hK9, hL9⟩ := HBK.out.book hto
          have HF9 : Hid (r.f = 0 → plainB LL' = T' ∧ tl ⟨⟨q⟩⟩ = lastP T' ∧ T'.length + m = n) := Lib.hid (fun e => by
            obtain ⟨e1, e2, e3⟩ := HF.out e
            refine ⟨?_, e2, e3⟩
            rw [hL9.out, HPL.out, hl5.out]
            exact e1)
          clear HPT hto p0 p1 p2 p3
          go_wp2_with fail
          go_roundw
          case rel => exact ⟨m, T', r.L, r.f, ⟨⟨q⟩⟩, mo', LL', by go_num, rfl, by omega, HG.out, hK9, HF9.out, by omega, by show q.length ≤ _; omega⟩
          case measure => simp [intOf]
    · have hgo2 : readGo m T L f = (T, L, f) := by
        by_cases hf0 : f = 0
        · have : m = 0 := by
            by_cases h : 0 < m
            · exact absurd ⟨h, hf0⟩ hmf
            · omega
          subst this
          rfl
        · exact readGo_bad _ _ _ hf0
      have HRB2 : Hid (readB l = (S0, T, closeS L f)) := Lib.hid (by rw [HRB.out, hgo.out, hgo2])
      have HCL := Lib.hid (close_any w.heap.size _ A4 c4 L f wr hA4)
      obtain ⟨K, hKK⟩ : ∃ K, K = closeS L f := ⟨_, rfl⟩
      rw [← hKK] at HRB2 HCL
      have HF0 : Hid (K = 0 → f = 0) := Lib.hid (fun e => by
        rw [hKK] at e
        unfold closeS at e
        split at e
        · exact e
        · rename_i h; exact Decidable.not_not.1 h)
      have hbr := hK.low
      have HFF := Lib.hid hf.out
      have hmf2 : decide ((0 : Int) < (m : Int)) = false ∨ (f == 0) = false := by
        by_cases h : 0 < m
        · exact .inr (by simpa using fun e => hmf ⟨h, e⟩)
        · exact .inl (decide_eq_false (by omega))
      clear hgo hgo2 hK hf hKK hA4 hmf HRB
      have hfin : ∀ (e : Ending), (K = 0 → e = .returned (.tuple #[.pointer (some ⟨bb, 0, none⟩), .int .i64 0])) → (K ≠ 0 → e = .returned (.tuple #[.pointer none, .int .i64 K])) → BookRd w l e wr := fun e h1 h2 => by
        unfold BookRd
        rw [HRB2.out]
        dsimp only
        by_cases hK0 : K = 0
        · obtain ⟨e1, _, _⟩ := HFF.out (HF0.out hK0)
          exact .inl ⟨hK0, bb, mo, LL, h1 hK0, by rw [← HSS.out]; exact HKR.out.b, e1, HKR.out.hb, HKR.out.hm⟩
        · exact .inr ⟨hK0, h2 hK0⟩
      have HFN := Lib.hid hfin
      clear hfin
      by_cases hm0 : 0 < m
      · have hmd : decide ((0 : Int) < (m : Int)) = true := decide_eq_true (by omega)
        have hfb : (f == 0) = false := by
          rcases hmf2 with h | h
          · rw [hmd] at h; cases h
          · exact h
        clear hmf2
        go_wp2_with fail
        refine HFT.out.mono ?_
        rintro e wf ⟨rfl, rfl⟩
        go_wp2_with fail
        refine HCL.out.mono ?_
        rintro e wf ⟨rfl, rfl⟩
        by_cases hK0 : K = 0
        · have hkb : (K != 0) = false := by simpa using hK0
          go_wp2_with fail
          refine bodyPost_ret (v := .tuple #[.pointer (some ⟨bb, 0, none⟩), .int .i64 0]) (by simp [results, Tryz.results28, go_sem]) rfl ?_
          exact ⟨HFN.out _ (fun _ => rfl) (fun e => absurd hK0 e), hbr⟩
        · have hkb : (K != 0) = true := by simpa using hK0
          go_wp2_with fail
          refine bodyPost_ret (v := .tuple #[.pointer none, .int .i64 K]) (by simp [results, Tryz.results28, go_sem]) rfl ?_
          exact ⟨HFN.out _ (fun e => absurd e hK0) (fun _ => rfl), hbr⟩
      · have hmd : decide ((0 : Int) < (m : Int)) = false := decide_eq_false (by omega)
        clear hmf2
        go_wp2_with fail
        refine HCL.out.mono ?_
        rintro e wf ⟨rfl, rfl⟩
        by_cases hK0 : K = 0
        · have hkb : (K != 0) = false := by simpa using hK0
          go_wp2_with fail
          refine bodyPost_ret (v := .tuple #[.pointer (some ⟨bb, 0, none⟩), .int .i64 0]) (by simp [results, Tryz.results28, go_sem]) rfl ?_
          exact ⟨HFN.out _ (fun _ => rfl) (fun e => absurd hK0 e), hbr⟩
        · have hkb : (K != 0) = true := by simpa using hK0
          go_wp2_with fail
          refine bodyPost_ret (v := .tuple #[.pointer none, .int .i64 K]) (by simp [results, Tryz.results28, go_sem]) rfl ?_
          exact ⟨HFN.out _ (fun e => absurd e hK0) (fun _ => rfl), hbr⟩

end Go.Proofs.YtdnljmncdbcgeaaGreat
