/- A region that draws its order, of whose first n operations each yields ONE value in every world of a class (and leaves a world of it): one walk, in the order of the text, serves every order; what stands behind them goes one after the other. No program. -/
import Derived.Test.YtffimpjjdhnajaaMem
import Derived.Deep.Quiet
import Derived.StillTail
import Derived.BigQuiet
namespace Go.Proofs.Ytffimpjjdhnajaa
open Go.RowKit

section
variable {P : Program} {ops : Array Oper} {md : Region.Mode} {C : World → Prop}

/-- From here on k operations below n, each of which may come up now and has one value; E holds behind all. -/
inductive Det (P : Program) (md : Region.Mode) (ops : Array Oper) (C : World → Prop) (n : Nat) (E : Array Bool → Act → Prop) : Nat → Array Bool → Act → Prop
  | done {listed : Array Bool} {a : Act} : (∀ j ∈ Region.ready md ops listed, n ≤ j) → E listed a → Det P md ops C n E 0 listed a
  | step {k i : Nat} {listed : Array Bool} {a : Act} {o : Oper} {v : Value} : ops[i]? = some o → i < n → HeadInv md ops n listed → i ∈ Region.ready md ops listed →
      (∀ j oj, ops[j]? = some oj → j ≠ i → listed.getD j true = false → (∀ e ∈ oj.after, Region.binds md e = true → e.on ≠ i) → o.apart ops oj = true) →
      YieldsIn P ops C o v a → Det P md ops C n E k (listed.setIfInBounds i true) (a.put o.dst v) → Det P md ops C n E (k + 1) listed a

/-- while one of the first n is to come none behind them may come up -/
def TailWaits (md : Region.Mode) (ops : Array Oper) (n : Nat) : Prop :=
  ∀ listed, HeadInv md ops n listed → ∀ i, i < n → listed.getD i true = false → ∀ t ∈ Region.ready md ops listed, t < n

theorem Det.any {n : Nat} {E : Array Bool → Act → Prop} (hsel : ∀ (j : Nat) (o : Oper) cs b, ops[j]? = some o → o.op ≠ .select cs b) (hT : TailWaits md ops n) :
    ∀ {k : Nat} {listed : Array Bool} {a : Act}, Det P md ops C n E (k + 1) listed a →
      Region.ready md ops listed ≠ [] ∧ ∀ j ∈ Region.ready md ops listed, ∃ o v, ops[j]? = some o ∧ YieldsIn P ops C o v a ∧ Det P md ops C n E k (listed.setIfInBounds j true) (a.put o.dst v) := by
  intro k
  induction k with
  | zero =>
    intro listed a h
    cases h with
    | @step _ i _ _ o v ho hin inv hr hap hy hd =>
      refine ⟨fun h => (by rw [h] at hr; cases hr), fun j hj => ?_⟩
      by_cases hji : j = i
      · subst hji; exact ⟨o, v, ho, hy, hd⟩
      · cases hd with
        | done hge _ => have h1 := hT _ inv i hin (mem_ready.1 hr).1 j hj; have h2 := hge j (ready_mono hj hji); omega
  | succ k ih =>
    intro listed a h
    cases h with
    | @step _ i _ _ o v ho hin inv hr hap hy hd =>
      refine ⟨fun h => (by rw [h] at hr; cases hr), fun j hj => ?_⟩
      by_cases hji : j = i
      · subst hji; exact ⟨o, v, ho, hy, hd⟩
      · obtain ⟨_, h2⟩ := ih hd
        obtain ⟨oj, u, hoj, hyj, hdj⟩ := h2 j (ready_mono hj hji)
        obtain ⟨hjun, oj', hoj', hall⟩ := mem_ready.1 hj
        obtain rfl : oj' = oj := Option.some.inj (hoj'.symm.trans hoj)
        have hun := (mem_ready.1 hr).1
        have hnot : ∀ e ∈ oj'.after, Region.binds md e = true → e.on ≠ i := fun e he hb heq => by
          have h1 := hall e he hb
          rw [heq, getD_both hun] at h1
          cases h1
        have hapj := hap j oj' hoj hji hjun hnot
        obtain ⟨a1, a2, a3⟩ := Oper.apart_spec hapj
        have hyj' : YieldsIn P ops C oj' u a := hyj.of_same (execOp_put oj' (fun cs b => hsel j oj' cs b hoj) a o.dst v a1).symm (wanted_put oj' a o.dst v a1).symm
        have hyi' : YieldsIn P ops C o v (a.put oj'.dst u) := hy.of_same (execOp_put o (fun cs b => hsel i o cs b ho) a oj'.dst u a3) (wanted_put o a oj'.dst u a3)
        refine ⟨oj', u, hoj, hyj', ?_⟩
        rw [Act.put_comm a v u a2, Array.setIfInBounds_comm _ _ (Ne.symm hji)] at hdj
        refine Det.step ho hin (inv.set hj (hT _ inv i hin hun j hj)) (ready_mono hr (Ne.symm hji)) ?_ hyi' hdj
        intro m om hm hmi hmun hmno
        refine hap m om hm hmi ?_ hmno
        by_cases hmj : j = m
        · subst hmj; exact hjun
        · rw [getD_set_ne true hmj] at hmun; exact hmun

theorem wpAny_of_det {n g : Nat} {E : Array Bool → Act → Prop} {Q : Exit → Act → World → Prop} (hsel : ∀ (j : Nat) (o : Oper) cs b, ops[j]? = some o → o.op ≠ .select cs b) (hT : TailWaits md ops n)
    (hE : ∀ listed a w, E listed a → C w → wpAny P md ops Q g listed a w) :
    ∀ (k : Nat) (listed : Array Bool) (a : Act) (w : World), Det P md ops C n E k listed a → C w → wpAny P md ops Q (k + g) listed a w
  | 0, listed, a, w, h, hw => by
    rw [Nat.zero_add]
    cases h with
    | done _ h => exact hE _ _ _ h hw
  | k + 1, listed, a, w, h, hw => by
    obtain ⟨h1, h2⟩ := Det.any hsel hT h
    rw [show k + 1 + g = (k + g) + 1 by omega]
    refine ⟨fun h0 => absurd h0 h1, fun j hj => ?_⟩
    obtain ⟨o, v, ho, hy, hd⟩ := h2 j hj
    exact wpOp_of_qOp (K := fun a' => Det P md ops C n E k (listed.setIfInBounds j true) a') hw (fun a' w' hw' hd' => wpAny_of_det hsel hT hE k _ a' w' hd' hw') (hy.qOp ho hd)

theorem det_lex {n g : Nat} {Lq : Act → Prop} (hsel : Region.noSelect ops = true) :
    ∀ (l : List Oper) (k : Nat) (listed : Array Bool) (a : Act), (∀ j, j < l.length → l[j]? = ops[k + j]?) → k + l.length = n → HeadInv md ops n listed →
    Region.lexHead md ops g l.length k listed = true → wpQuiet P ops C Lq l a →
    Det P md ops C n (fun listed' a' => Region.seqB md ops g n listed' = true ∧ Lq a') l.length listed a
  | [], k, listed, a, _, hk, _, hB, h => by
    have : k = n := by simpa using hk
    subst this
    have hs : Region.seqB md ops g k listed = true := by simpa [Region.lexHead] using hB
    exact .done (seqB_ready hs) ⟨hs, h⟩
  | o :: l, k, listed, a, hl, hk, inv, hB, h => by
    have h0 : ops[k]? = some o := by simpa using (hl 0 (by simp)).symm
    simp only [List.length_cons, Region.lexHead, Bool.and_eq_true] at hB
    obtain ⟨⟨hr, hf⟩, hB'⟩ := hB
    have hkn : k < n := by simp only [List.length_cons] at hk; omega
    have hr' : k ∈ Region.ready md ops listed := by simpa using hr
    have hst : qOp P ops C k (wpQuiet P ops C Lq l) a := by unfold qOp; simp only [h0]; exact h
    obtain ⟨v, hy, hK⟩ := yieldsIn_of_qOp h0 hst
    exact .step h0 hkn inv hr' (Region.free_spec h0 hf) hy
      (det_lex hsel l (k + 1) _ _ (fun j hj => by have := hl (j + 1) (by simp; omega); simpa [Nat.add_assoc, Nat.add_comm 1 j] using this) (by simp only [List.length_cons] at hk; omega) (inv.set hr' hkn) hB' hK)

/-- a quiet walk that nobody looks into (the walk's head is not to be unfolded: 'refine' would run it) -/
structure ClsW (P : Program) (ops : Array Oper) (C : World → Prop) (Q : Act → Prop) (l : List Oper) (a : Act) : Prop where
  go : wpQuiet P ops C Q l a
/-- what is asked of the region's form: n operations ahead, the rest one behind the other -/
def clsB (ops : Array Oper) (n : Nat) : Bool :=
  Region.noSelect ops && (decide (n = ops.size) || (decide (n < ops.size) && Region.sinkB .any ops n && Region.chainB .any ops n)) && Region.lexHead .any ops (ops.size - n) n 0 (Array.replicate ops.size false)

theorem wp_region_class {id : Nat} {Q : Exit → Act → World → Prop} {a : Act} {w : World} {l : List Oper} (n : Nat) (C : World → Prop) (hm : P.follows .mixedOrders = true) (hB : clsB l.toArray n = true) (hC : C w.drew)
    (h : ClsW P l.toArray C (fun a' => ∀ w', C w' → wpList P l.toArray Q (l.drop n) a' w') (l.take n) a) : (Code.region id l.toArray true).wp P Q a w := by
  replace h := h.go
  simp only [clsB, Bool.and_eq_true, Bool.or_eq_true, decide_eq_true_eq] at hB
  obtain ⟨⟨hsel, hn⟩, hlex⟩ := hB
  have hnl : n ≤ l.length := by
    rcases hn with h | ⟨⟨h, _⟩, _⟩
    · simp at h; omega
    · simp at h; omega
  have hT : TailWaits .any l.toArray n := by
    intro listed inv i hi hun t ht
    rcases hn with h | ⟨⟨h, hs⟩, hc⟩
    · obtain ⟨_, o, ho, _⟩ := mem_ready.1 ht
      have := (Array.getElem?_eq_some_iff.1 ho).1
      omega
    · rcases Nat.lt_or_ge t n with h1 | h1
      · exact h1
      · exact absurd ht (tail_waits hs hc h inv _ i rfl hi hun t h1)
  have htl : (l.take n).length = n := by simp; omega
  have hdl : (l.drop n).length = l.toArray.size - n := by simp
  have inv0 : HeadInv .any l.toArray n (Array.replicate l.toArray.size false) :=
    ⟨by simp, fun j oj _ hl => (by rw [getD_replicate_false] at hl; cases hl), fun t _ ht => getD_in (by simpa using ht) (getD_replicate_false _ _)⟩
  have H := det_lex (P := P) (md := .any) (C := C) (n := n) (g := l.toArray.size - n) hsel (l.take n) 0 _ a (fun j hj => by
    have hj' : j < n := by rw [htl] at hj; exact hj
    simp [hj']) (by simpa using htl) inv0 (by rw [htl]; exact hlex) h
  refine wp_region_any hm ?_
  have := wpAny_of_det (Q := Q) (g := l.toArray.size - n) (Region.noSelect_spec hsel) hT (fun listed a' w' hL hw => by
    have := wpAny_of_seq (md := .any) (Q' := Q) (l.drop n) n listed a' w' (fun j => by simp [List.getElem?_drop]) (by rw [hdl]; exact hL.1) (hL.2 w' hw)
    rwa [hdl] at this) _ _ _ w.drew H hC
  rw [htl, show n + (l.toArray.size - n) = l.toArray.size by omega] at this
  exact this

variable {Q : Act → Prop} {a : Act} {o : Oper} {rest : List Oper}
theorem cls_skip (hw : Region.wanted o (yielded ops a.tmps) = false) (h : ∃ a', a.put o.dst undef = a' ∧ ClsW P ops C Q rest a') : ClsW P ops C Q (o :: rest) a :=
  ⟨wpQuiet_step fun K hK => by
    obtain ⟨a', ha, h⟩ := h
    rw [if_neg (by rw [hw]; exact Bool.false_ne_true), ha]
    exact hK _ h.go⟩
theorem cls_val (hw : Region.wanted o (yielded ops a.tmps) = true) (h : ∃ v, (∀ w, C w → (execOp a.eval o).run P w = .ok (.value v) w) ∧ ∃ a', a.put o.dst v = a' ∧ ClsW P ops C Q rest a') : ClsW P ops C Q (o :: rest) a :=
  ⟨wpQuiet_step fun K hK => by
    obtain ⟨v, hv, a', ha, h⟩ := h
    rw [if_pos hw]
    refine ⟨v, fun w hC => ?_, by rw [ha]; exact hK _ h.go⟩
    unfold Oper.quietAt
    rw [hv w hC]
    exact ⟨rfl, rfl⟩⟩
theorem cls_move (x : Operand) (hw : Region.wanted o (yielded ops a.tmps) = true) (hop : o.op = .move x) (h : ∃ v, a.eval x = v ∧ ∃ a', a.put o.dst v = a' ∧ ClsW P ops C Q rest a') : ClsW P ops C Q (o :: rest) a := by
  obtain ⟨v, hv, h⟩ := h
  exact cls_val hw ⟨v, fun w _ => by rw [BigFrame.run_move x hop, hv], h⟩
theorem cls_assign (x : Operand) (hw : Region.wanted o (yielded ops a.tmps) = true) (hop : o.op = .assign x) (h : ∃ v, a.eval x = v ∧ ∃ a', a.put o.dst v = a' ∧ ClsW P ops C Q rest a') : ClsW P ops C Q (o :: rest) a := by
  obtain ⟨v, hv, h⟩ := h
  exact cls_val hw ⟨v, fun w _ => by rw [BigFrame.run_assign x hop, hv], h⟩
theorem cls_call {v : Value} {f : FuncId} {args : Array Value} (hw : Region.wanted o (yielded ops a.tmps) = true) (hc : ∀ w, C w → Calls P f args w fun e w' => e = .returned v ∧ C w') (hv : ∀ w, (execOp a.eval o).run P w = .ok (.enter f args) w)
    (h : ∃ a', a.put o.dst v = a' ∧ ClsW P ops C Q rest a') : ClsW P ops C Q (o :: rest) a :=
  ⟨wpQuiet_step fun K hK => by
    obtain ⟨a', ha, h⟩ := h
    rw [if_pos hw]
    refine ⟨v, fun w hC => ?_, by rw [ha]; exact hK _ h.go⟩
    unfold Oper.quietAt
    rw [hv w]
    exact ⟨rfl, hc w hC⟩⟩
theorem cls_end (h : Q a) : ClsW P ops C Q [] a := ⟨h⟩
/-- a contract that only makes memory, in the class of worlds above W -/
theorem cls_of {f : FuncId} {args : Array Value} {W w : World} {v : Value} (hC : Below W.heap.size W w) (h : Calls P f args w fun e w' => e = .returned v ∧ Below w.heap.size w w') :
    Calls P f args w fun e w' => e = .returned v ∧ Below W.heap.size W w' :=
  h.mono fun _ _ ⟨he, hb⟩ => ⟨he, bthen hC hb⟩
end
end Go.Proofs.Ytffimpjjdhnajaa
