/- Drawn regions whose operations each yield ONE value and at most make memory: one walk in the order of the text, in worlds above the one at hand; the variable that is made behind them may be made at any time. No program. -/
import Derived.Test.YtkeledbgmpienaaGreatA03
import Derived.Deep.Quiet
import Derived.StillTail
import Derived.BigQuiet

namespace Go.Proofs.YtkeledbgmpienaaGreat
open Go.RowKit

section
variable {P : Program} {ops : Array Oper} {md : Region.Mode} {W : World}

/-- In state a, in every world above W, the operation yields v, and makes memory at most. -/
def YB (P : Program) (ops : Array Oper) (W : World) (o : Oper) (v : Value) (a : Act) : Prop :=
  (Region.wanted o (yielded ops a.tmps) = true ∧ ∀ w, Below W.heap.size W w → (execOp a.eval o).run P w = .ok (.value v) w ∨
    ∃ f args, (execOp a.eval o).run P w = .ok (.enter f args) w ∧ Calls P f args w fun e w' => e = .returned v ∧ Below w.heap.size w w') ∨
  (Region.wanted o (yielded ops a.tmps) = false ∧ v = undef)
theorem YB.of_same {o : Oper} {v : Value} {a a' : Act} (hy : YB P ops W o v a) (he : execOp a'.eval o = execOp a.eval o)
    (hw : Region.wanted o (yielded ops a'.tmps) = Region.wanted o (yielded ops a.tmps)) : YB P ops W o v a' := by
  unfold YB at *
  rw [he, hw]
  exact hy
theorem YB.wpOp {i : Nat} {o : Oper} {v : Value} {a : Act} {w : World} {K : Act → World → Prop} {Q : Exit → Act → World → Prop} (hi : ops[i]? = some o) (hy : YB P ops W o v a) (hw : Below W.heap.size W w)
    (hK : ∀ w', Below w.heap.size w w' → K (a.put o.dst v) w') : wpOp P ops Q i K a w := by
  unfold Go.wpOp
  simp only [hi]
  rcases hy with ⟨hwt, hv⟩ | ⟨hwt, rfl⟩
  · simp only [hwt, if_true]
    refine .inl ?_
    unfold Oper.wp
    rcases hv w hw with e | ⟨f, args, e, hc⟩
    · rw [e]
      exact hK w (Below.refl _ _)
    · rw [e]
      exact hc.mono fun e w' ⟨he, hb⟩ => by subst he; exact hK w' hb
  · simp only [hwt, Bool.false_eq_true, if_false]
    exact hK w (Below.refl _ _)

inductive DetB (P : Program) (md : Region.Mode) (ops : Array Oper) (W : World) (n : Nat) (E : Array Bool → Act → Prop) : Nat → Array Bool → Act → Prop
  | done {listed : Array Bool} {a : Act} : (∀ j ∈ Region.ready md ops listed, n ≤ j) → E listed a → DetB P md ops W n E 0 listed a
  | step {k i : Nat} {listed : Array Bool} {a : Act} {o : Oper} {v : Value} : ops[i]? = some o → i < n → HeadInv md ops n listed → i ∈ Region.ready md ops listed →
      (∀ j oj, ops[j]? = some oj → j ≠ i → listed.getD j true = false → (∀ e ∈ oj.after, Region.binds md e = true → e.on ≠ i) → o.apart ops oj = true) →
      YB P ops W o v a → DetB P md ops W n E k (listed.setIfInBounds i true) (a.put o.dst v) → DetB P md ops W n E (k + 1) listed a
def TailWaitsB (md : Region.Mode) (ops : Array Oper) (n : Nat) : Prop :=
  ∀ listed, HeadInv md ops n listed → ∀ i, i < n → listed.getD i true = false → ∀ t ∈ Region.ready md ops listed, t < n

theorem DetB.any {n : Nat} {E : Array Bool → Act → Prop} (hsel : ∀ (j : Nat) (o : Oper) cs b, ops[j]? = some o → o.op ≠ .select cs b) (hT : TailWaitsB md ops n) :
    ∀ {k : Nat} {listed : Array Bool} {a : Act}, DetB P md ops W n E (k + 1) listed a →
      Region.ready md ops listed ≠ [] ∧ HeadInv md ops n listed ∧ ∀ j ∈ Region.ready md ops listed, j < n ∧ ∃ o v, ops[j]? = some o ∧ YB P ops W o v a ∧ DetB P md ops W n E k (listed.setIfInBounds j true) (a.put o.dst v) := by
  intro k
  induction k with
  | zero =>
    intro listed a h
    cases h with
    | @step _ i _ _ o v ho hin inv hr hap hy hd =>
      refine ⟨fun h => (by rw [h] at hr; cases hr), inv, fun j hj => ⟨hT _ inv i hin (mem_ready.1 hr).1 j hj, ?_⟩⟩
      by_cases hji : j = i
      · subst hji; exact ⟨o, v, ho, hy, hd⟩
      · cases hd with
        | done hge _ => have h1 := hT _ inv i hin (mem_ready.1 hr).1 j hj; have h2 := hge j (ready_mono hj hji); omega
  | succ k ih =>
    intro listed a h
    cases h with
    | @step _ i _ _ o v ho hin inv hr hap hy hd =>
      refine ⟨fun h => (by rw [h] at hr; cases hr), inv, fun j hj => ⟨hT _ inv i hin (mem_ready.1 hr).1 j hj, ?_⟩⟩
      by_cases hji : j = i
      · subst hji; exact ⟨o, v, ho, hy, hd⟩
      · obtain ⟨_, _, h2⟩ := ih hd
        obtain ⟨_, oj, u, hoj, hyj, hdj⟩ := h2 j (ready_mono hj hji)
        obtain ⟨hjun, oj', hoj', hall⟩ := mem_ready.1 hj
        obtain rfl : oj' = oj := Option.some.inj (hoj'.symm.trans hoj)
        have hun := (mem_ready.1 hr).1
        have hnot : ∀ e ∈ oj'.after, Region.binds md e = true → e.on ≠ i := fun e he hb heq => by
          have h1 := hall e he hb
          rw [heq, getD_both hun] at h1
          cases h1
        obtain ⟨a1, a2, a3⟩ := Oper.apart_spec (hap j oj' hoj hji hjun hnot)
        have hyj' := hyj.of_same (a' := a) (execOp_put oj' (fun cs b => hsel j oj' cs b hoj) a o.dst v a1).symm (wanted_put oj' a o.dst v a1).symm
        have hyi' := hy.of_same (a' := a.put oj'.dst u) (execOp_put o (fun cs b => hsel i o cs b ho) a oj'.dst u a3) (wanted_put o a oj'.dst u a3)
        refine ⟨oj', u, hoj, hyj', ?_⟩
        rw [Act.put_comm a v u a2, Array.setIfInBounds_comm _ _ (Ne.symm hji)] at hdj
        refine .step ho hin (inv.set hj (hT _ inv i hin hun j hj)) (ready_mono hr (Ne.symm hji)) ?_ hyi' hdj
        intro m om hm hmi hmun hmno
        refine hap m om hm hmi ?_ hmno
        by_cases hmj : j = m
        · subst hmj; exact hjun
        · rw [getD_set_ne true hmj] at hmun; exact hmun

theorem wpAny_of_detB {n g : Nat} {E : Array Bool → Act → Prop} {Q : Exit → Act → World → Prop} (hsel : ∀ (j : Nat) (o : Oper) cs b, ops[j]? = some o → o.op ≠ .select cs b) (hT : TailWaitsB md ops n)
    (hE : ∀ listed a w, E listed a → Below W.heap.size W w → wpAny P md ops Q g listed a w) :
    ∀ (k : Nat) (listed : Array Bool) (a : Act) (w : World), DetB P md ops W n E k listed a → Below W.heap.size W w → wpAny P md ops Q (k + g) listed a w
  | 0, listed, a, w, h, hw => by
    rw [Nat.zero_add]
    cases h with
    | done _ h => exact hE _ _ _ h hw
  | k + 1, listed, a, w, h, hw => by
    obtain ⟨h1, _, h2⟩ := DetB.any hsel hT h
    rw [show k + 1 + g = (k + g) + 1 by omega]
    refine ⟨fun h0 => absurd h0 h1, fun j hj => ?_⟩
    obtain ⟨_, o, v, ho, hy, hd⟩ := h2 j hj
    exact hy.wpOp ho hw fun w' hb => wpAny_of_detB hsel hT hE k _ _ w' hd (hw.trans (hb.mono hw.size))

/-- a world above W in which the block b was made -/
structure Made (W : World) (t : TypeId) (cs : Array Value) (b : Nat) (w : World) : Prop where
  below : Below W.heap.size W w
  ge : W.heap.size ≤ b
  blk : Blk w b t cs
theorem Made.step {t : TypeId} {cs : Array Value} {b : Nat} {w w' : World} (h : Made W t cs b w) (k : Below w.heap.size w w') : Made W t cs b w' :=
  ⟨h.below.trans (k.mono h.below.size), h.ge, h.blk.below k⟩

variable {f : Nat} {of : Oper} {t : TypeId} {cs : Array Value}
/-- the check: so many operations from k on, each ready and free; then the tail from n on, one behind the other -/
def headF (md : Region.Mode) (ops : Array Oper) (g n : Nat) : Nat → Nat → Array Bool → Bool
  | 0, _, listed => Region.seqB md ops g n listed
  | m + 1, k, listed => (Region.ready md ops listed).contains k && Region.free md ops listed k && headF md ops g n m (k + 1) (listed.setIfInBounds k true)

/-- the walk in the text's order; nobody looks into it -/
inductive WalkB (P : Program) (ops : Array Oper) (W : World) (Q : Act → Prop) : List Oper → Act → Prop
  | nil {a : Act} : Q a → WalkB P ops W Q [] a
  | cons {o : Oper} {rest : List Oper} {a : Act} {v : Value} : YB P ops W o v a → WalkB P ops W Q rest (a.put o.dst v) → WalkB P ops W Q (o :: rest) a

theorem detB_lex {n g : Nat} {Lq : Act → Prop} :
    ∀ (l : List Oper) (k : Nat) (listed : Array Bool) (a : Act), (∀ j, j < l.length → l[j]? = ops[k + j]?) → k + l.length ≤ n → HeadInv md ops n listed →
    headF md ops g n l.length k listed = true → WalkB P ops W Lq l a →
    DetB P md ops W n (fun listed' a' => Region.seqB md ops g n listed' = true ∧ Lq a') l.length listed a
  | [], k, listed, a, _, _, _, hB, h => by
    have hs : Region.seqB md ops g n listed = true := by simpa [headF] using hB
    cases h with
    | nil h => exact .done (seqB_ready hs) ⟨hs, h⟩
  | o :: l, k, listed, a, hl, hk, inv, hB, h => by
    have h0 : ops[k]? = some o := by simpa using (hl 0 (by simp)).symm
    simp only [List.length_cons, headF, Bool.and_eq_true] at hB
    obtain ⟨⟨hr, hf⟩, hB'⟩ := hB
    have hkn : k < n := by simp only [List.length_cons] at hk; omega
    have hr' : k ∈ Region.ready md ops listed := by simpa using hr
    cases h with
    | cons hy hd =>
      refine .step h0 hkn inv hr' (Region.free_spec h0 hf) hy ?_
      exact (detB_lex l (k + 1) _ _ (fun j hj => by have := hl (j + 1) (by simp; omega); simpa [Nat.add_assoc, Nat.add_comm 1 j] using this) (by simp only [List.length_cons] at hk; omega) (inv.set hr' hkn) hB' hd)

def tailOkB (ops : Array Oper) (n : Nat) : Bool := Region.noSelect ops && (decide (n = ops.size) || (decide (n < ops.size) && Region.sinkB .any ops n && Region.chainB .any ops n))
theorem tailOkB_spec {n : Nat} (h : tailOkB ops n = true) : Region.noSelect ops = true ∧ n ≤ ops.size ∧ TailWaitsB .any ops n := by
  simp only [tailOkB, Bool.and_eq_true, Bool.or_eq_true, decide_eq_true_eq] at h
  obtain ⟨hsel, hn⟩ := h
  refine ⟨hsel, ?_, ?_⟩
  · rcases hn with h | ⟨⟨h, _⟩, _⟩ <;> omega
  · intro listed inv i hi hun t ht
    rcases hn with h | ⟨⟨h, hs⟩, hc⟩
    · obtain ⟨_, o, ho, _⟩ := mem_ready.1 ht
      have := (Array.getElem?_eq_some_iff.1 ho).1
      omega
    · rcases Nat.lt_or_ge t n with h1 | h1
      · exact h1
      · exact absurd ht (tail_waits hs hc h inv _ i rfl hi hun t h1)
theorem inv_new (n : Nat) : HeadInv md ops n (Array.replicate ops.size false) :=
  ⟨by simp, fun j oj _ hl => (by rw [getD_replicate_false] at hl; cases hl), fun t _ ht => getD_in (by simpa using ht) (getD_replicate_false _ _)⟩

/-- n operations, then the rest one behind the other -/
theorem wp_region_b {id : Nat} {Q : Exit → Act → World → Prop} {a : Act} {w : World} {l : List Oper} (n : Nat) (hm : P.follows .mixedOrders = true)
    (hB : (tailOkB l.toArray n && headF .any l.toArray (l.toArray.size - n) n n 0 (Array.replicate l.toArray.size false)) = true)
    (h : WalkB P l.toArray w (fun a' => ∀ w', Below w.heap.size w w' → wpList P l.toArray Q (l.drop n) a' w') (l.take n) a) : (Code.region id l.toArray true).wp P Q a w := by
  rw [Bool.and_eq_true] at hB
  obtain ⟨hok, hlex⟩ := hB
  obtain ⟨hsel, hnl, hT⟩ := tailOkB_spec hok
  have htl : (l.take n).length = n := by simp at hnl ⊢; omega
  have hdl : (l.drop n).length = l.toArray.size - n := by simp
  have H := detB_lex (P := P) (md := .any) (W := w) (n := n) (g := l.toArray.size - n) (l.take n) 0 _ a (fun j hj => by
    have hj' : j < n := by rw [htl] at hj; exact hj
    simp [hj']) (by rw [htl]; omega) (inv_new n) (by rw [htl]; exact hlex) h
  refine wp_region_any hm ?_
  have := wpAny_of_detB (Q := Q) (g := l.toArray.size - n) (Region.noSelect_spec hsel) hT (fun listed a' w' hL hw => by
    have := wpAny_of_seq (md := .any) (Q' := Q) (l.drop n) n listed a' w' (fun j => by simp [List.getElem?_drop]) (by rw [hdl]; exact hL.1) (hL.2 w' hw)
    rwa [hdl] at this) _ _ _ w.drew H (Below.refl _ _).drew
  rw [htl, show n + (l.toArray.size - n) = l.toArray.size by omega] at this
  exact this

variable {Q : Act → Prop} {a : Act} {o : Oper} {rest : List Oper}
theorem lb_skip (hw : Region.wanted o (yielded ops a.tmps) = false) (h : ∃ a', a.put o.dst undef = a' ∧ WalkB P ops W Q rest a') : WalkB P ops W Q (o :: rest) a := by
  obtain ⟨a', ha, h⟩ := h
  exact .cons (.inr ⟨hw, rfl⟩) (by rw [ha]; exact h)
theorem lb_val (hw : Region.wanted o (yielded ops a.tmps) = true) (h : ∃ v, (∀ w, Below W.heap.size W w → (execOp a.eval o).run P w = .ok (.value v) w) ∧ ∃ a', a.put o.dst v = a' ∧ WalkB P ops W Q rest a') : WalkB P ops W Q (o :: rest) a := by
  obtain ⟨v, hv, a', ha, h⟩ := h
  exact .cons (.inl ⟨hw, fun w hb => .inl (hv w hb)⟩) (by rw [ha]; exact h)
theorem lb_move (x : Operand) (hw : Region.wanted o (yielded ops a.tmps) = true) (hop : o.op = .move x) (h : ∃ v, a.eval x = v ∧ ∃ a', a.put o.dst v = a' ∧ WalkB P ops W Q rest a') : WalkB P ops W Q (o :: rest) a := by
  obtain ⟨v, hv, h⟩ := h
  exact lb_val hw ⟨v, fun w _ => by rw [BigFrame.run_move x hop, hv], h⟩
theorem lb_call {v : Value} {f : FuncId} {args : Array Value} (hw : Region.wanted o (yielded ops a.tmps) = true) (hc : ∀ w, Below W.heap.size W w → Calls P f args w fun e w' => e = .returned v ∧ Below w.heap.size w w') (hv : ∀ w, (execOp a.eval o).run P w = .ok (.enter f args) w)
    (h : ∃ a', a.put o.dst v = a' ∧ WalkB P ops W Q rest a') : WalkB P ops W Q (o :: rest) a := by
  obtain ⟨a', ha, h⟩ := h
  exact .cons (.inl ⟨hw, fun w hb => .inr ⟨f, args, hv w, hc w hb⟩⟩) (by rw [ha]; exact h)
end
end Go.Proofs.YtkeledbgmpienaaGreat

/- Drawn regions in the text's order: operations that only tell what stays so (they may come at any time), others each of which is alone when it comes, and a tail behind all of them. No program. -/
namespace Go.Proofs.YtkeledbgmpienaaGreat
open Go.RowKit

section
variable {P : Program} {ops : Array Oper} {md : Region.Mode} {C : World → Prop}

/-- nothing but a value -/
def Qz : Exit → Act → World → Prop := fun _ _ _ => False
theorem letsOut_qz : ¬ LetsOut Qz := fun h => by
  obtain ⟨_, _, h⟩ := h
  exact h
theorem Oper.wp_of_z {o : Oper} {a : Act} {w : World} {K : Act → World → Prop} {Q : Exit → Act → World → Prop} (h : o.wp P a w K Qz) : o.wp P a w K Q := by
  unfold Oper.wp at *
  generalize (execOp a.eval o).run P w = r at *
  cases r with
  | ok n w' =>
    cases n <;> simp only [Oper.upon] at h ⊢
    case enter f args =>
      refine Calls.mono h fun e w'' he => ?_
      cases e with
      | returned u => exact he
      | panicked c => exact absurd he (by simp [Qz])
      | outgrown => exact absurd he letsOut_qz
    all_goals first | exact h | exact absurd h (by simp)
  | halt x w' =>
    cases x <;> simp only [Oper.upon] at h ⊢
    case panic u => exact absurd h (by simp [Qz])
theorem wpOp_of_z {i : Nat} {a : Act} {w : World} {K : Act → World → Prop} {Q : Exit → Act → World → Prop} (h : wpOp P ops Qz i K a w) : wpOp P ops Q i K a w := by
  unfold wpOp at *
  split
  · rename_i h0; simpa [h0] using h
  · rename_i o ho
    simp only [ho] at h
    split
    · rename_i hw
      simp only [hw, if_true] at h
      rcases h with h | ⟨_, h⟩
      · exact .inl (Oper.wp_of_z h)
      · exact absurd h letsOut_qz
    · rename_i hw; simpa [hw] using h

/-- in every world of the class it tells v, and nothing turns -/
def StC (P : Program) (ops : Array Oper) (C : World → Prop) (o : Oper) (v : Value) (a : Act) : Prop :=
  (Region.wanted o (yielded ops a.tmps) = true ∧ ∀ w, C w → (execOp a.eval o).run P w = .ok (.value v) w) ∨ (Region.wanted o (yielded ops a.tmps) = false ∧ v = undef)
theorem StC.of_same {o : Oper} {v : Value} {a a' : Act} (hy : StC P ops C o v a) (he : execOp a'.eval o = execOp a.eval o)
    (hw : Region.wanted o (yielded ops a'.tmps) = Region.wanted o (yielded ops a.tmps)) : StC P ops C o v a' := by
  unfold StC at *
  rw [he, hw]
  exact hy
theorem StC.wpOp {i : Nat} {o : Oper} {v : Value} {a : Act} {w : World} {K : Act → World → Prop} {Q : Exit → Act → World → Prop} (hi : ops[i]? = some o) (hy : StC P ops C o v a) (hw : C w)
    (hK : K (a.put o.dst v) w) : wpOp P ops Q i K a w := by
  unfold Go.wpOp
  simp only [hi]
  rcases hy with ⟨hwt, hv⟩ | ⟨hwt, rfl⟩
  · simp only [hwt, if_true, Oper.wp, hv w hw, Oper.upon]
    exact .inl hK
  · simp only [hwt, Bool.false_eq_true, if_false]
    exact hK

theorem wpOp_putC {j : Nat} {oi oj : Oper} {v : Value} (hj : ops[j]? = some oj) (hap : oi.apart ops oj = true)
    (hsi : ∀ cs b, oi.op ≠ .select cs b) (hsj : ∀ cs b, oj.op ≠ .select cs b) {K : Act → World → Prop} {a : Act} {w : World}
    (hy : StC P ops C oi v a) (h : wpOp P ops Qz j K (a.put oi.dst v) w) :
    wpOp P ops Qz j (fun a' w' => StC P ops C oi v a' ∧ K (a'.put oi.dst v) w') a w := by
  obtain ⟨h1, h2, h3⟩ := Oper.apart_spec hap
  have keep : ∀ (a : Act), StC P ops C oi v a → ∀ u, StC P ops C oi v (a.put oj.dst u) := fun a hy u =>
    hy.of_same (execOp_put oi hsi a oj.dst u h3) (wanted_put oi a oj.dst u h3)
  have keepD : ∀ d, StC P ops C oi v { a with defers := d :: a.defers } := fun d => hy.of_same rfl rfl
  unfold wpOp at *
  simp only [hj] at *
  rw [wanted_put oj a oi.dst v h1] at h
  split
  · rename_i hw
    simp only [hw, if_true] at h
    rcases h with h | ⟨_, hlets⟩
    case inr => exact absurd hlets letsOut_qz
    refine .inl ?_
    unfold Oper.wp at *
    rw [execOp_put oj hsj a oi.dst v h1] at h
    generalize (execOp a.eval oj).run P w = r at *
    cases r with
    | ok n w' =>
      cases n <;> simp only [Oper.upon] at h ⊢
      case value u => exact ⟨keep a hy u, by rw [← Act.put_comm a v u h2]; exact h⟩
      case skip => exact ⟨keep a hy _, by rw [← Act.put_comm a v undef h2]; exact h⟩
      case defer d =>
        refine ⟨keep _ (keepD d) _, ?_⟩
        rw [← Act.put_comm _ v undef h2, ← Act.put_defers]
        exact h
      case enter f args =>
        refine Calls.mono h fun e w'' he => ?_
        cases e with
        | returned u => exact ⟨keep a hy u, by rw [← Act.put_comm a v u h2]; exact he⟩
        | panicked c => exact absurd he (by simp [Qz])
        | outgrown => exact he
      case row row args => exact Rows.mono h fun u w'' he => ⟨keep a hy u, by rw [← Act.put_comm a v u h2]; exact he⟩
    | halt x w' =>
      cases x <;> simp only [Oper.upon] at h ⊢
      case panic u => exact absurd h (by simp [Qz])
  · rename_i hw
    simp only [hw] at h
    exact ⟨keep a hy _, by rw [← Act.put_comm a v undef h2]; exact h⟩

/-- so many operations below m, each of which may come up, then E -/
def wpAnyT (P : Program) (md : Region.Mode) (ops : Array Oper) (C : World → Prop) (m : Nat) (E : Array Bool → Act → World → Prop) : Nat → Array Bool → Act → World → Prop
  | 0, listed, a, w => C w ∧ (∀ j ∈ Region.ready md ops listed, m ≤ j) ∧ E listed a w
  | k + 1, listed, a, w => C w ∧ Region.ready md ops listed ≠ [] ∧ ∀ i ∈ Region.ready md ops listed, i < m ∧ wpOp P ops Qz i (wpAnyT P md ops C m E k (listed.setIfInBounds i true)) a w
theorem wpAnyT.c {m k : Nat} {E : Array Bool → Act → World → Prop} {listed : Array Bool} {a : Act} {w : World} (h : wpAnyT P md ops C m E k listed a w) : C w := by
  cases k with
  | zero => exact h.1
  | succ k => exact h.1

theorem wpAnyT_first {m i : Nat} {oi : Oper} {v : Value} {E : Array Bool → Act → World → Prop} (hi : ops[i]? = some oi) (him : i < m) (hsel : ∀ (j : Nat) (o : Oper) cs b, ops[j]? = some o → o.op ≠ .select cs b) (hT : TailWaitsB md ops m) :
    ∀ (fuel : Nat) (listed : Array Bool) (a : Act) (w : World), HeadInv md ops m listed →
      (∀ j oj, ops[j]? = some oj → j ≠ i → listed.getD j true = false → (∀ e ∈ oj.after, Region.binds md e = true → e.on ≠ i) → oi.apart ops oj = true) →
      i ∈ Region.ready md ops listed → StC P ops C oi v a →
      wpAnyT P md ops C m E fuel (listed.setIfInBounds i true) (a.put oi.dst v) w → wpAnyT P md ops C m E (fuel + 1) listed a w := by
  intro fuel
  induction fuel with
  | zero =>
    intro listed a w inv _ hr hy H
    refine ⟨H.c, fun h => (by rw [h] at hr; cases hr), fun j hj => ?_⟩
    by_cases hji : j = i
    · subst hji; exact ⟨him, hy.wpOp hi H.c H⟩
    · have h1 := H.2.1 j (ready_mono hj hji)
      have h2 := hT listed inv i him (mem_ready.1 hr).1 j hj
      omega
  | succ fuel ih =>
    intro listed a w inv hfree hr hy H
    refine ⟨H.c, fun h => (by rw [h] at hr; cases hr), fun j hj => ?_⟩
    by_cases hji : j = i
    · subst hji; exact ⟨him, hy.wpOp hi H.c H⟩
    · obtain ⟨hjm, h1⟩ := H.2.2 j (ready_mono hj hji)
      obtain ⟨hjun, oj, hoj, hall⟩ := mem_ready.1 hj
      have hnot : ∀ e ∈ oj.after, Region.binds md e = true → e.on ≠ i := fun e he hb heq => by
        have h1 := hall e he hb
        rw [heq, getD_both (mem_ready.1 hr).1] at h1
        cases h1
      have h2 := wpOp_putC hoj (hfree j oj hoj hji hjun hnot) (fun cs b => hsel i oi cs b hi) (fun cs b => hsel j oj cs b hoj) hy h1
      have hfree' : ∀ k ok, ops[k]? = some ok → k ≠ i → (listed.setIfInBounds j true).getD k true = false →
          (∀ e ∈ ok.after, Region.binds md e = true → e.on ≠ i) → oi.apart ops ok = true := fun k ok hk hki hun hno => by
        refine hfree k ok hk hki ?_ hno
        by_cases hjk : j = k
        · subst hjk; exact hjun
        · rw [getD_set_ne true hjk] at hun; exact hun
      refine ⟨hjm, wpOp_mono (fun a' w' h3 => ih (listed.setIfInBounds j true) a' w' (inv.set hj hjm) hfree' (ready_mono hr (Ne.symm hji)) h3.1 ?_) h2⟩
      rw [Array.setIfInBounds_comm _ _ hji]
      exact h3.2

theorem wpAny_of_T {m g : Nat} {E : Array Bool → Act → World → Prop} {Q : Exit → Act → World → Prop} (hE : ∀ listed a w, E listed a w → wpAny P md ops Q g listed a w) :
    ∀ (k : Nat) (listed : Array Bool) (a : Act) (w : World), wpAnyT P md ops C m E k listed a w → wpAny P md ops Q (k + g) listed a w
  | 0, listed, a, w, h => by rw [Nat.zero_add]; exact hE _ _ _ h.2.2
  | k + 1, listed, a, w, h => by
    rw [show k + 1 + g = (k + g) + 1 by omega]
    exact ⟨fun h0 => absurd h0 h.2.1, fun j hj => wpOp_mono (fun a' w' h' => wpAny_of_T hE k _ a' w' h') (wpOp_of_z (h.2.2 j hj).2)⟩

/-- the walk in the text's order: true: it only tells; false: it is alone -/
def wpMix (P : Program) (ops : Array Oper) (C : World → Prop) (E : Act → World → Prop) : List Bool → List Oper → Act → World → Prop
  | [], [], a, w => C w ∧ E a w
  | true :: ks, o :: l, a, w => ∃ v, StC P ops C o v a ∧ wpMix P ops C E ks l (a.put o.dst v) w
  | false :: ks, o :: l, a, w => C w ∧ ((Region.wanted o (yielded ops a.tmps) = true ∧ o.wp P a w (wpMix P ops C E ks l) Qz) ∨ (Region.wanted o (yielded ops a.tmps) = false ∧ wpMix P ops C E ks l (a.put o.dst undef) w))
  | _, _, _, _ => False
/-- nobody looks into it -/
structure MixW (P : Program) (ops : Array Oper) (C : World → Prop) (E : Act → World → Prop) (ks : List Bool) (l : List Oper) (a : Act) (w : World) : Prop where
  go : wpMix P ops C E ks l a w

def mixB (md : Region.Mode) (ops : Array Oper) (g : Nat) : List Bool → Nat → Array Bool → Bool
  | [], k, listed => Region.seqB md ops g k listed
  | true :: ks, k, listed => (Region.ready md ops listed).contains k && Region.free md ops listed k && mixB md ops g ks (k + 1) (listed.setIfInBounds k true)
  | false :: ks, k, listed => decide (Region.ready md ops listed = [k]) && mixB md ops g ks (k + 1) (listed.setIfInBounds k true)

theorem mix_lex {m g : Nat} {Lq : Act → World → Prop} (hsel : ∀ (j : Nat) (o : Oper) cs b, ops[j]? = some o → o.op ≠ .select cs b) (hT : TailWaitsB md ops m) :
    ∀ (ks : List Bool) (l : List Oper) (k : Nat) (listed : Array Bool) (a : Act) (w : World), (∀ j, j < l.length → l[j]? = ops[k + j]?) → k + l.length = m → HeadInv md ops m listed →
    mixB md ops g ks k listed = true → wpMix P ops C Lq ks l a w →
    wpAnyT P md ops C m (fun listed' a' w' => Region.seqB md ops g m listed' = true ∧ Lq a' w') l.length listed a w
  | [], [], k, listed, a, w, _, hk, _, hB, h => by
    have : k = m := by simpa using hk
    subst this
    exact ⟨h.1, seqB_ready hB, hB, h.2⟩
  | true :: ks, o :: l, k, listed, a, w, hl, hk, inv, hB, h => by
    have h0 : ops[k]? = some o := by simpa using (hl 0 (by simp)).symm
    simp only [mixB, Bool.and_eq_true] at hB
    obtain ⟨⟨hr, hf⟩, hB'⟩ := hB
    have hkm : k < m := by simp only [List.length_cons] at hk; omega
    have hr' : k ∈ Region.ready md ops listed := by simpa using hr
    obtain ⟨v, hy, h'⟩ := h
    exact wpAnyT_first h0 hkm hsel hT _ listed a w inv (Region.free_spec h0 hf) hr' hy
      (mix_lex hsel hT ks l (k + 1) _ _ w (fun j hj => by have := hl (j + 1) (by simp; omega); simpa [Nat.add_assoc, Nat.add_comm 1 j] using this) (by simp only [List.length_cons] at hk; omega) (inv.set hr' hkm) hB' h')
  | false :: ks, o :: l, k, listed, a, w, hl, hk, inv, hB, h => by
    have h0 : ops[k]? = some o := by simpa using (hl 0 (by simp)).symm
    simp only [mixB, Bool.and_eq_true, decide_eq_true_eq] at hB
    obtain ⟨hr, hB'⟩ := hB
    have hkm : k < m := by simp only [List.length_cons] at hk; omega
    obtain ⟨hc, h'⟩ := h
    refine ⟨hc, fun h1 => (by rw [hr] at h1; cases h1), fun i hi => ?_⟩
    have hi' := hi
    rw [hr] at hi
    have hik : i = k := by simpa using hi
    subst hik
    refine ⟨hkm, ?_⟩
    have rec_ : ∀ a' w', wpMix P ops C Lq ks l a' w' → wpAnyT P md ops C m (fun listed' a' w' => Region.seqB md ops g m listed' = true ∧ Lq a' w') l.length (listed.setIfInBounds i true) a' w' := fun a' w' h2 =>
      mix_lex hsel hT ks l (i + 1) _ a' w' (fun j hj => by have := hl (j + 1) (by simp; omega); simpa [Nat.add_assoc, Nat.add_comm 1 j] using this) (by simp only [List.length_cons] at hk; omega) (inv.set hi' hkm) hB' h2
    unfold wpOp
    simp only [h0]
    rcases h' with ⟨hw, h'⟩ | ⟨hw, h'⟩
    · simp only [hw, if_true]
      exact .inl (Oper.wp_mono rec_ h')
    · simp only [hw, Bool.false_eq_true, if_false]
      exact rec_ _ _ h'
  | [], _ :: _, _, _, _, _, _, _, _, _, h => h.elim
  | true :: _, [], _, _, _, _, _, _, _, _, h => h.elim
  | false :: _, [], _, _, _, _, _, _, _, _, h => h.elim

/-- the first operations by kinds, the rest one behind the other -/
theorem wp_region_m {id : Nat} {Q : Exit → Act → World → Prop} {a : Act} {w : World} {l : List Oper} (ks : List Bool) (C : World → Prop) (hm : P.follows .mixedOrders = true)
    (hB : (tailOkB l.toArray ks.length && mixB .any l.toArray (l.toArray.size - ks.length) ks 0 (Array.replicate l.toArray.size false)) = true)
    (h : MixW P l.toArray C (fun a' w' => wpList P l.toArray Q (l.drop ks.length) a' w') ks (l.take ks.length) a w.drew) : (Code.region id l.toArray true).wp P Q a w := by
  rw [Bool.and_eq_true] at hB
  obtain ⟨hok, hlex⟩ := hB
  obtain ⟨hsel, hnl, hT⟩ := tailOkB_spec hok
  have htl : (l.take ks.length).length = ks.length := by simp at hnl ⊢; omega
  have hdl : (l.drop ks.length).length = l.toArray.size - ks.length := by simp
  have H := mix_lex (P := P) (md := .any) (m := ks.length) (g := l.toArray.size - ks.length) (Region.noSelect_spec hsel) hT ks (l.take ks.length) 0 _ a w.drew (fun j hj => by
    have hj' : j < ks.length := by rw [htl] at hj; exact hj
    simp [hj']) (by rw [htl]; omega) (inv_new ks.length) hlex h.go
  refine wp_region_any hm ?_
  have := wpAny_of_T (Q := Q) (g := l.toArray.size - ks.length) (fun listed a' w' hL => by
    have := wpAny_of_seq (md := .any) (Q' := Q) (l.drop ks.length) ks.length listed a' w' (fun j => by simp [List.getElem?_drop]) (by rw [hdl]; exact hL.1) hL.2
    rwa [hdl] at this) _ _ _ _ H
  rw [htl, show ks.length + (l.toArray.size - ks.length) = l.toArray.size by omega] at this
  exact this

variable {E : Act → World → Prop} {ks : List Bool} {o : Oper} {rest : List Oper} {a : Act} {w : World}
theorem mx_val (hw : Region.wanted o (yielded ops a.tmps) = true) (h : ∃ v, (∀ w, C w → (execOp a.eval o).run P w = .ok (.value v) w) ∧ ∃ a', a.put o.dst v = a' ∧ MixW P ops C E ks rest a' w) : MixW P ops C E (true :: ks) (o :: rest) a w := by
  obtain ⟨v, hv, a', ha, h⟩ := h
  exact ⟨v, .inl ⟨hw, hv⟩, by rw [ha]; exact h.go⟩
theorem mx_move (x : Operand) (hw : Region.wanted o (yielded ops a.tmps) = true) (hop : o.op = .move x) (h : ∃ v, a.eval x = v ∧ ∃ a', a.put o.dst v = a' ∧ MixW P ops C E ks rest a' w) : MixW P ops C E (true :: ks) (o :: rest) a w := by
  obtain ⟨v, hv, h⟩ := h
  exact mx_val hw ⟨v, fun w _ => by rw [BigFrame.run_move x hop, hv], h⟩
theorem mx_assign (x : Operand) (hw : Region.wanted o (yielded ops a.tmps) = true) (hop : o.op = .assign x) (h : ∃ v, a.eval x = v ∧ ∃ a', a.put o.dst v = a' ∧ MixW P ops C E ks rest a' w) : MixW P ops C E (true :: ks) (o :: rest) a w := by
  obtain ⟨v, hv, h⟩ := h
  exact mx_val hw ⟨v, fun w _ => by rw [BigFrame.run_assign x hop, hv], h⟩
/-- alone: a call -/
theorem mx_call {f : FuncId} {args : Array Value} {R : Ending → World → Prop} (hc : C w) (hw : Region.wanted o (yielded ops a.tmps) = true) (hv : (execOp a.eval o).run P w = .ok (.enter f args) w) (hcall : Calls P f args w R)
    (h : ∀ e w', R e w' → ∃ v, e = .returned v ∧ ∃ a', a.put o.dst v = a' ∧ MixW P ops C E ks rest a' w') : MixW P ops C E (false :: ks) (o :: rest) a w := by
  refine ⟨hc, .inl ⟨hw, ?_⟩⟩
  unfold Oper.wp
  rw [hv]
  refine hcall.mono fun e w' he => ?_
  obtain ⟨v, rfl, a', ha, h⟩ := h e w' he
  show wpMix P ops C E ks rest (a.put o.dst v) w'
  rw [ha]
  exact h.go
theorem mx_end (hc : C w) (h : E a w) : MixW P ops C E [] [] a w := ⟨hc, h⟩
end
end Go.Proofs.YtkeledbgmpienaaGreat

/- Drawn regions in an order of ours: as Mix, but the operations are told in any order that the region may have. No program. -/
namespace Go.Proofs.YtkeledbgmpienaaGreat
open Go.RowKit

section
variable {P : Program} {ops : Array Oper} {md : Region.Mode} {C : World → Prop}
def mixP (md : Region.Mode) (ops : Array Oper) (g m : Nat) : List (Nat × Bool) → Array Bool → Bool
  | [], listed => Region.seqB md ops g m listed
  | (k, true) :: ks, listed => decide (k < m) && (Region.ready md ops listed).contains k && Region.free md ops listed k && mixP md ops g m ks (listed.setIfInBounds k true)
  | (k, false) :: ks, listed => decide (k < m) && decide (Region.ready md ops listed = [k]) && mixP md ops g m ks (listed.setIfInBounds k true)
theorem mix_perm {m g : Nat} {Lq : Act → World → Prop} (hsel : ∀ (j : Nat) (o : Oper) cs b, ops[j]? = some o → o.op ≠ .select cs b) (hT : TailWaitsB md ops m) :
    ∀ (ks : List (Nat × Bool)) (l : List Oper) (listed : Array Bool) (a : Act) (w : World), l.map some = ks.map (fun x => ops[x.1]?) → HeadInv md ops m listed →
    mixP md ops g m ks listed = true → wpMix P ops C Lq (ks.map (·.2)) l a w →
    wpAnyT P md ops C m (fun listed' a' w' => Region.seqB md ops g m listed' = true ∧ Lq a' w') l.length listed a w
  | [], [], listed, a, w, _, _, hB, h => ⟨h.1, seqB_ready hB, hB, h.2⟩
  | (k, true) :: ks, o :: l, listed, a, w, hl, inv, hB, h => by
    simp only [List.map_cons, List.cons.injEq] at hl
    have h0 : ops[k]? = some o := hl.1.symm
    simp only [mixP, Bool.and_eq_true, decide_eq_true_eq] at hB
    obtain ⟨⟨⟨hkm, hr⟩, hf⟩, hB'⟩ := hB
    have hr' : k ∈ Region.ready md ops listed := by simpa using hr
    obtain ⟨v, hy, h'⟩ := h
    exact wpAnyT_first h0 hkm hsel hT _ listed a w inv (Region.free_spec h0 hf) hr' hy (mix_perm hsel hT ks l _ _ w hl.2 (inv.set hr' hkm) hB' h')
  | (k, false) :: ks, o :: l, listed, a, w, hl, inv, hB, h => by
    simp only [List.map_cons, List.cons.injEq] at hl
    have h0 : ops[k]? = some o := hl.1.symm
    simp only [mixP, Bool.and_eq_true, decide_eq_true_eq] at hB
    obtain ⟨⟨hkm, hr⟩, hB'⟩ := hB
    obtain ⟨hc, h'⟩ := h
    refine ⟨hc, fun h1 => (by rw [hr] at h1; cases h1), fun i hi => ?_⟩
    have hi' := hi
    rw [hr] at hi
    have hik : i = k := by simpa using hi
    subst hik
    refine ⟨hkm, ?_⟩
    have rec_ : ∀ a' w', wpMix P ops C Lq (ks.map (·.2)) l a' w' → wpAnyT P md ops C m (fun listed' a' w' => Region.seqB md ops g m listed' = true ∧ Lq a' w') l.length (listed.setIfInBounds i true) a' w' := fun a' w' h2 =>
      mix_perm hsel hT ks l _ a' w' hl.2 (inv.set hi' hkm) hB' h2
    unfold wpOp
    simp only [h0]
    rcases h' with ⟨hw, h'⟩ | ⟨hw, h'⟩
    · simp only [hw, if_true]
      exact .inl (Oper.wp_mono rec_ h')
    · simp only [hw, Bool.false_eq_true, if_false]
      exact rec_ _ _ h'
  | [], _ :: _, _, _, _, hl, _, _, _ => by simp at hl
  | (_, true) :: _, [], _, _, _, hl, _, _, _ => by simp at hl
  | (_, false) :: _, [], _, _, _, hl, _, _, _ => by simp at hl
theorem filterMap_some (l : List Oper) : ∀ (ks : List (Nat × Bool)), ks.all (fun x => decide (x.1 < l.length)) = true → (ks.filterMap fun x => l[x.1]?).map some = ks.map (fun x => l.toArray[x.1]?)
  | [], _ => rfl
  | x :: ks, h => by
    simp only [List.all_cons, Bool.and_eq_true, decide_eq_true_eq] at h
    have ih := filterMap_some l ks h.2
    rw [List.filterMap_cons, List.getElem?_eq_getElem h.1]
    simp only [List.map_cons]
    rw [ih, show l.toArray[x.1]? = some l[x.1] by simp [h.1]]
/-- the first operations in an order of ours, by kinds; the rest one behind the other -/
theorem wp_region_p {id : Nat} {Q : Exit → Act → World → Prop} {a : Act} {w : World} {l : List Oper} (ks : List (Nat × Bool)) (C : World → Prop) (hm : P.follows .mixedOrders = true)
    (hB : (ks.all (fun x => decide (x.1 < l.length)) && tailOkB l.toArray ks.length && mixP .any l.toArray (l.toArray.size - ks.length) ks.length ks (Array.replicate l.toArray.size false)) = true)
    (h : MixW P l.toArray C (fun a' w' => wpList P l.toArray Q (l.drop ks.length) a' w') (ks.map (·.2)) (ks.filterMap fun x => l[x.1]?) a w.drew) : (Code.region id l.toArray true).wp P Q a w := by
  rw [Bool.and_eq_true, Bool.and_eq_true] at hB
  obtain ⟨⟨hall, hok⟩, hlex⟩ := hB
  obtain ⟨hsel, hnl, hT⟩ := tailOkB_spec hok
  have hfm := filterMap_some l ks hall
  have hfl : (ks.filterMap fun x => l[x.1]?).length = ks.length := by simpa using congrArg List.length hfm
  have hdl : (l.drop ks.length).length = l.toArray.size - ks.length := by simp
  have H := mix_perm (P := P) (md := .any) (m := ks.length) (g := l.toArray.size - ks.length) (Region.noSelect_spec hsel) hT ks _ _ a w.drew hfm (inv_new ks.length) hlex h.go
  refine wp_region_any hm ?_
  have := wpAny_of_T (Q := Q) (g := l.toArray.size - ks.length) (fun listed a' w' hL => by
    have := wpAny_of_seq (md := .any) (Q' := Q) (l.drop ks.length) ks.length listed a' w' (fun j => by simp [List.getElem?_drop]) (by rw [hdl]; exact hL.1) hL.2
    rwa [hdl] at this) _ _ _ _ H
  rw [hfl, show ks.length + (l.toArray.size - ks.length) = l.toArray.size by simp at hnl ⊢; omega] at this
  exact this
end
end Go.Proofs.YtkeledbgmpienaaGreat

/- Drawn regions with two operations that make memory, neither of which waits for the other: both orders, and one continuation. No program. -/
namespace Go.Proofs.YtkeledbgmpienaaGreat
open Go.RowKit

section
variable {P : Program} {ops : Array Oper} {md : Region.Mode} {C : World → Prop}
end
end Go.Proofs.YtkeledbgmpienaaGreat

/- Drawn regions by a plan: operations that only tell, operations that are alone, and at forks either of two. No program. -/
namespace Go.Proofs.YtkeledbgmpienaaGreat
open Go.RowKit

inductive Plan where
  | done
  | tell (k : Nat) (p : Plan)
  | one (k : Nat) (p : Plan)
  | two (i : Nat) (p : Plan) (j : Nat) (q : Plan)
  | three (i : Nat) (p : Plan) (j : Nat) (q : Plan) (k : Nat) (r : Plan)
namespace Plan
def count : Plan → Nat
  | done => 0
  | tell _ p => p.count + 1
  | one _ p => p.count + 1
  | two _ p _ _ => p.count + 1
  | three _ p _ _ _ _ => p.count + 1
def ok (md : Region.Mode) (ops : Array Oper) (g m : Nat) : Plan → Array Bool → Bool
  | done, listed => Region.seqB md ops g m listed
  | tell k p, listed => decide (k < m) && (Region.ready md ops listed).contains k && Region.free md ops listed k && ok md ops g m p (listed.setIfInBounds k true)
  | one k p, listed => decide (k < m) && decide (Region.ready md ops listed = [k]) && ok md ops g m p (listed.setIfInBounds k true)
  | two i p j q, listed => decide (i < m) && decide (j < m) && decide (p.count = q.count) && decide (Region.ready md ops listed = [i, j]) && ok md ops g m p (listed.setIfInBounds i true) && ok md ops g m q (listed.setIfInBounds j true)
  | three i p j q k r, listed => decide (i < m) && decide (j < m) && decide (k < m) && decide (p.count = q.count) && decide (p.count = r.count) && decide (Region.ready md ops listed = [i, j, k]) && ok md ops g m p (listed.setIfInBounds i true) && ok md ops g m q (listed.setIfInBounds j true) && ok md ops g m r (listed.setIfInBounds k true)
end Plan
section
variable {P : Program} {ops : Array Oper} {md : Region.Mode} {C : World → Prop}
/-- an operation that is alone -/
def aloneP (P : Program) (ops : Array Oper) (o : Oper) (K : Act → World → Prop) (a : Act) (w : World) : Prop :=
  (Region.wanted o (yielded ops a.tmps) = true ∧ o.wp P a w K Qz) ∨ (Region.wanted o (yielded ops a.tmps) = false ∧ K (a.put o.dst undef) w)
def wpPlan (P : Program) (ops : Array Oper) (C : World → Prop) (E : Act → World → Prop) : Plan → Act → World → Prop
  | .done, a, w => C w ∧ E a w
  | .tell k p, a, w => ∃ o v, ops[k]? = some o ∧ StC P ops C o v a ∧ wpPlan P ops C E p (a.put o.dst v) w
  | .one k p, a, w => C w ∧ ∃ o, ops[k]? = some o ∧ aloneP P ops o (wpPlan P ops C E p) a w
  | .two i p j q, a, w => C w ∧ (∃ o, ops[i]? = some o ∧ aloneP P ops o (wpPlan P ops C E p) a w) ∧ (∃ o, ops[j]? = some o ∧ aloneP P ops o (wpPlan P ops C E q) a w)
  | .three i p j q k r, a, w => C w ∧ (∃ o, ops[i]? = some o ∧ aloneP P ops o (wpPlan P ops C E p) a w) ∧ (∃ o, ops[j]? = some o ∧ aloneP P ops o (wpPlan P ops C E q) a w) ∧ (∃ o, ops[k]? = some o ∧ aloneP P ops o (wpPlan P ops C E r) a w)
/-- nobody looks into it -/
structure PlanW (P : Program) (ops : Array Oper) (C : World → Prop) (E : Act → World → Prop) (p : Plan) (a : Act) (w : World) : Prop where
  go : wpPlan P ops C E p a w
theorem aloneP.wpOp {i : Nat} {o : Oper} {K K' : Act → World → Prop} {a : Act} {w : World} (hi : ops[i]? = some o) (hK : ∀ a' w', K a' w' → K' a' w') (h : aloneP P ops o K a w) : wpOp P ops Qz i K' a w := by
  unfold Go.wpOp
  simp only [hi]
  rcases h with ⟨hw, h⟩ | ⟨hw, h⟩
  · simp only [hw, if_true]
    exact .inl (Oper.wp_mono hK h)
  · simp only [hw, Bool.false_eq_true, if_false]
    exact hK _ _ h
theorem plan_any {m g : Nat} {Lq : Act → World → Prop} (hsel : ∀ (j : Nat) (o : Oper) cs b, ops[j]? = some o → o.op ≠ .select cs b) (hT : TailWaitsB md ops m) :
    ∀ (p : Plan) (listed : Array Bool) (a : Act) (w : World), HeadInv md ops m listed → p.ok md ops g m listed = true → wpPlan P ops C Lq p a w →
    wpAnyT P md ops C m (fun listed' a' w' => Region.seqB md ops g m listed' = true ∧ Lq a' w') p.count listed a w
  | .done, listed, a, w, _, hB, h => ⟨h.1, seqB_ready hB, hB, h.2⟩
  | .tell k p, listed, a, w, inv, hB, h => by
    simp only [Plan.ok, Bool.and_eq_true, decide_eq_true_eq] at hB
    obtain ⟨⟨⟨hkm, hr⟩, hf⟩, hB'⟩ := hB
    have hr' : k ∈ Region.ready md ops listed := by simpa using hr
    obtain ⟨o, v, h0, hy, h'⟩ := h
    exact wpAnyT_first h0 hkm hsel hT _ listed a w inv (Region.free_spec h0 hf) hr' hy (plan_any hsel hT p _ _ w (inv.set hr' hkm) hB' h')
  | .one k p, listed, a, w, inv, hB, h => by
    simp only [Plan.ok, Bool.and_eq_true, decide_eq_true_eq] at hB
    obtain ⟨⟨hkm, hr⟩, hB'⟩ := hB
    obtain ⟨hc, o, h0, h'⟩ := h
    refine ⟨hc, fun h1 => (by rw [hr] at h1; cases h1), fun i hi => ?_⟩
    have hi' := hi
    rw [hr] at hi
    obtain rfl : i = k := by simpa using hi
    exact ⟨hkm, h'.wpOp h0 fun a' w' h2 => plan_any hsel hT p _ a' w' (inv.set hi' hkm) hB' h2⟩
  | .two i p j q, listed, a, w, inv, hB, h => by
    simp only [Plan.ok, Bool.and_eq_true, decide_eq_true_eq] at hB
    obtain ⟨⟨⟨⟨⟨him, hjm⟩, hpq⟩, hr⟩, hp⟩, hq⟩ := hB
    obtain ⟨hc, ⟨oi, h0, h1⟩, ⟨oj, h2, h3⟩⟩ := h
    refine ⟨hc, fun h1 => (by rw [hr] at h1; cases h1), fun x hx => ?_⟩
    have hx' := hx
    rw [hr] at hx
    rcases List.mem_cons.1 hx with rfl | hx
    · exact ⟨him, h1.wpOp h0 fun a' w' h => plan_any hsel hT p _ a' w' (inv.set hx' him) hp h⟩
    · obtain rfl := List.mem_singleton.1 hx
      exact ⟨hjm, h3.wpOp h2 fun a' w' h => by
        have := plan_any hsel hT q _ a' w' (inv.set hx' hjm) hq h
        rw [hpq]
        exact this⟩
  | .three i p j q k r, listed, a, w, inv, hB, h => by
    simp only [Plan.ok, Bool.and_eq_true, decide_eq_true_eq] at hB
    obtain ⟨⟨⟨⟨⟨⟨⟨⟨him, hjm⟩, hkm⟩, hpq⟩, hpr⟩, hr⟩, hp⟩, hq⟩, hrr⟩ := hB
    obtain ⟨hc, ⟨oi, h0, h1⟩, ⟨oj, h2, h3⟩, ⟨ok, h4, h5⟩⟩ := h
    refine ⟨hc, fun h1 => (by rw [hr] at h1; cases h1), fun x hx => ?_⟩
    have hx' := hx
    rw [hr] at hx
    rcases List.mem_cons.1 hx with rfl | hx
    · exact ⟨him, h1.wpOp h0 fun a' w' h => plan_any hsel hT p _ a' w' (inv.set hx' him) hp h⟩
    · rcases List.mem_cons.1 hx with rfl | hx
      · exact ⟨hjm, h3.wpOp h2 fun a' w' h => by
          have := plan_any hsel hT q _ a' w' (inv.set hx' hjm) hq h
          rw [hpq]
          exact this⟩
      · obtain rfl := List.mem_singleton.1 hx
        exact ⟨hkm, h5.wpOp h4 fun a' w' h => by
          have := plan_any hsel hT r _ a' w' (inv.set hx' hkm) hrr h
          rw [hpr]
          exact this⟩
/-- the first operations by a plan, the rest one behind the other -/
theorem wp_region_plan {id : Nat} {Q : Exit → Act → World → Prop} {a : Act} {w : World} {l : List Oper} (p : Plan) (C : World → Prop) (E : Act → World → Prop) (hm : P.follows .mixedOrders = true)
    (hB : (tailOkB l.toArray p.count && p.ok .any l.toArray (l.toArray.size - p.count) p.count (Array.replicate l.toArray.size false)) = true)
    (h : PlanW P l.toArray C E p a w.drew) (hE : ∀ a' w', E a' w' → wpList P l.toArray Q (l.drop p.count) a' w') : (Code.region id l.toArray true).wp P Q a w := by
  rw [Bool.and_eq_true] at hB
  obtain ⟨hok, hlex⟩ := hB
  obtain ⟨hsel, hnl, hT⟩ := tailOkB_spec hok
  have hdl : (l.drop p.count).length = l.toArray.size - p.count := by simp
  have H := plan_any (P := P) (md := .any) (m := p.count) (g := l.toArray.size - p.count) (Region.noSelect_spec hsel) hT p _ a w.drew (inv_new p.count) hlex h.go
  refine wp_region_any hm ?_
  have := wpAny_of_T (Q := Q) (g := l.toArray.size - p.count) (fun listed a' w' hL => by
    have := wpAny_of_seq (md := .any) (Q' := Q) (l.drop p.count) p.count listed a' w' (fun j => by simp [List.getElem?_drop]) (by rw [hdl]; exact hL.1) (hE _ _ hL.2)
    rwa [hdl] at this) _ _ _ _ H
  rw [show p.count + (l.toArray.size - p.count) = l.toArray.size by simp at hnl ⊢; omega] at this
  exact this
variable {E : Act → World → Prop} {p q : Plan} {o : Oper} {a : Act} {w : World}
theorem pl_val {k : Nat} (h0 : ops[k]? = some o) (hw : Region.wanted o (yielded ops a.tmps) = true) (h : ∃ v, (∀ w, C w → (execOp a.eval o).run P w = .ok (.value v) w) ∧ ∃ a', a.put o.dst v = a' ∧ PlanW P ops C E p a' w) : PlanW P ops C E (.tell k p) a w := by
  obtain ⟨v, hv, a', ha, h⟩ := h
  exact ⟨o, v, h0, .inl ⟨hw, hv⟩, by rw [ha]; exact h.go⟩
/-- one that is alone: what it does -/
structure AloneW (P : Program) (ops : Array Oper) (o : Oper) (K : Act → World → Prop) (a : Act) (w : World) : Prop where
  go : aloneP P ops o K a w
theorem pl_one {k : Nat} (h0 : ops[k]? = some o) (hc : C w) (h : AloneW P ops o (fun a' w' => PlanW P ops C E p a' w') a w) : PlanW P ops C E (.one k p) a w :=
  ⟨hc, o, h0, h.go.imp (fun h => ⟨h.1, Oper.wp_mono (fun _ _ h => h.go) h.2⟩) (fun h => ⟨h.1, h.2.go⟩)⟩
theorem pl_two {i j : Nat} {oj : Oper} (h0 : ops[i]? = some o) (h1 : ops[j]? = some oj) (hc : C w) (h : AloneW P ops o (fun a' w' => PlanW P ops C E p a' w') a w) (h' : AloneW P ops oj (fun a' w' => PlanW P ops C E q a' w') a w) : PlanW P ops C E (.two i p j q) a w :=
  ⟨hc, ⟨o, h0, h.go.imp (fun h => ⟨h.1, Oper.wp_mono (fun _ _ h => h.go) h.2⟩) (fun h => ⟨h.1, h.2.go⟩)⟩, ⟨oj, h1, h'.go.imp (fun h => ⟨h.1, Oper.wp_mono (fun _ _ h => h.go) h.2⟩) (fun h => ⟨h.1, h.2.go⟩)⟩⟩
theorem pl_three {i j k : Nat} {r : Plan} {oj ok : Oper} (h0 : ops[i]? = some o) (h1 : ops[j]? = some oj) (h2 : ops[k]? = some ok) (hc : C w) (h : AloneW P ops o (fun a' w' => PlanW P ops C E p a' w') a w) (h' : AloneW P ops oj (fun a' w' => PlanW P ops C E q a' w') a w) (h'' : AloneW P ops ok (fun a' w' => PlanW P ops C E r a' w') a w) : PlanW P ops C E (.three i p j q k r) a w :=
  ⟨hc, ⟨o, h0, h.go.imp (fun h => ⟨h.1, Oper.wp_mono (fun _ _ h => h.go) h.2⟩) (fun h => ⟨h.1, h.2.go⟩)⟩, ⟨oj, h1, h'.go.imp (fun h => ⟨h.1, Oper.wp_mono (fun _ _ h => h.go) h.2⟩) (fun h => ⟨h.1, h.2.go⟩)⟩, ⟨ok, h2, h''.go.imp (fun h => ⟨h.1, Oper.wp_mono (fun _ _ h => h.go) h.2⟩) (fun h => ⟨h.1, h.2.go⟩)⟩⟩
theorem aloneP.mono {o : Oper} {K K' : Act → World → Prop} {a : Act} {w : World} (hK : ∀ a w, K a w → K' a w) (h : aloneP P ops o K a w) : aloneP P ops o K' a w :=
  h.imp (fun h => ⟨h.1, Oper.wp_mono hK h.2⟩) (fun h => ⟨h.1, hK _ _ h.2⟩)
theorem wpPlan_mono {E E' : Act → World → Prop} (hE : ∀ a w, E a w → E' a w) : ∀ (p : Plan) (a : Act) (w : World), wpPlan P ops C E p a w → wpPlan P ops C E' p a w
  | .done, a, w, h => ⟨h.1, hE _ _ h.2⟩
  | .tell k p, a, w, ⟨o, v, h0, h1, h2⟩ => ⟨o, v, h0, h1, wpPlan_mono hE p _ _ h2⟩
  | .one k p, a, w, ⟨hc, o, h0, h1⟩ => ⟨hc, o, h0, h1.mono (wpPlan_mono hE p)⟩
  | .two i p j q, a, w, ⟨hc, ⟨o, h0, h1⟩, ⟨o', h2, h3⟩⟩ => ⟨hc, ⟨o, h0, h1.mono (wpPlan_mono hE p)⟩, ⟨o', h2, h3.mono (wpPlan_mono hE q)⟩⟩
  | .three i p j q k r, a, w, ⟨hc, ⟨o, h0, h1⟩, ⟨o', h2, h3⟩, ⟨o'', h4, h5⟩⟩ => ⟨hc, ⟨o, h0, h1.mono (wpPlan_mono hE p)⟩, ⟨o', h2, h3.mono (wpPlan_mono hE q)⟩, ⟨o'', h4, h5.mono (wpPlan_mono hE r)⟩⟩
/-- four values told in whatever order: they meet -/
theorem pl_meet4 {d1 d2 d3 d4 : Option Tmp} (J : Value → Value → Value → Value → World → Prop) {F : Value → Value → Value → Value → Act} (hF : ∀ v1 v2 v3 v4, (((a.put d1 v1).put d2 v2).put d3 v3).put d4 v4 = F v1 v2 v3 v4)
    (h : PlanW P ops C (fun a' w' => ∃ v1 v2 v3 v4, a' = F v1 v2 v3 v4 ∧ J v1 v2 v3 v4 w') p a w) (hE : ∀ v1 v2 v3 v4 w', J v1 v2 v3 v4 w' → E (F v1 v2 v3 v4) w') : PlanW P ops C E p a w :=
  ⟨wpPlan_mono (fun _ _ ⟨v1, v2, v3, v4, e, hj⟩ => by rw [e]; exact hE v1 v2 v3 v4 _ hj) p a w h.go⟩
theorem al_val {K : Act → World → Prop} (hw : Region.wanted o (yielded ops a.tmps) = true) (h : ∃ v w', (execOp a.eval o).run P w = .ok (.value v) w' ∧ ∃ a', a.put o.dst v = a' ∧ K a' w') : AloneW P ops o K a w := by
  obtain ⟨v, w', hv, a', ha, h⟩ := h
  refine ⟨.inl ⟨hw, ?_⟩⟩
  unfold Oper.wp
  rw [hv]
  show K (a.put o.dst v) w'
  rw [ha]
  exact h
/-- alone: a store -/
theorem al_skip {K : Act → World → Prop} (hw : Region.wanted o (yielded ops a.tmps) = true) (h : ∃ w', (execOp a.eval o).run P w = .ok .skip w' ∧ ∃ a', a.put o.dst undef = a' ∧ K a' w') : AloneW P ops o K a w := by
  obtain ⟨w', hv, a', ha, h⟩ := h
  refine ⟨.inl ⟨hw, ?_⟩⟩
  unfold Oper.wp
  rw [hv]
  show K (a.put o.dst undef) w'
  rw [ha]
  exact h
/-- alone: a call -/
theorem al_call {K : Act → World → Prop} {f : FuncId} {args : Array Value} {R : Ending → World → Prop} (hw : Region.wanted o (yielded ops a.tmps) = true) (hv : (execOp a.eval o).run P w = .ok (.enter f args) w) (hcall : Calls P f args w R)
    (h : ∀ e w', R e w' → ∃ v, e = .returned v ∧ ∃ a', a.put o.dst v = a' ∧ K a' w') : AloneW P ops o K a w := by
  refine ⟨.inl ⟨hw, ?_⟩⟩
  unfold Oper.wp
  rw [hv]
  refine hcall.mono fun e w' he => ?_
  obtain ⟨v, rfl, a', ha, h⟩ := h e w' he
  show K (a.put o.dst v) w'
  rw [ha]
  exact h
theorem pl_end (hc : C w) (h : E a w) : PlanW P ops C E .done a w := ⟨hc, h⟩
end
end Go.Proofs.YtkeledbgmpienaaGreat
