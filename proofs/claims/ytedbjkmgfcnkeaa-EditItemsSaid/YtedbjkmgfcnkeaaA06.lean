/- Drawn regions whose operations each yield ONE value and at most make memory: one walk in the order of the text, in worlds above the one at hand; the variable that is made behind them may be made at any time. No program. -/
import Derived.Test.YtedbjkmgfcnkeaaA05
import Derived.Deep.Quiet
import Derived.StillTail
import Derived.BigQuiet
import Derived.Tactics2

namespace Go.Proofs.Ytedbjkmgfcnkeaa
open Go.RowKit

section
variable {P : Program} {ops : Array Oper} {md : Region.Mode} {W : World}

/-- In state a, in every world above W, the operation yields v, and makes memory at most. -/
def YB (P : Program) (ops : Array Oper) (W : World) (o : Oper) (v : Value) (a : Act) : Prop :=
  (Region.wanted o (yielded ops a.tmps) = true ∧ ∀ w, Below W.heap.size W w → (execOp a.eval o).run P w = .ok (.value v) w ∨
    ∃ f args, (execOp a.eval o).run P w = .ok (.enter f args) w ∧ Calls P f args w fun e w' => e = .returned v ∧ Below w.heap.size w w') ∨
  (Region.wanted o (yielded ops a.tmps) = false ∧ v = undef)
theorem YB.of_same {o : Oper} {v : Value} {a a' : Act} (hy : YB P ops W o v a) (he : execOp a'.eval o = execOp a.eval o)
    (hw : Region.wanted o (yielded ops a'.tmps) = Region.wanted o (yielded ops a.tmps)) : YB P ops W o v a' := by
  unfold YB at *
  rw [he, hw]
  exact hy
theorem YB.wpOp {i : Nat} {o : Oper} {v : Value} {a : Act} {w : World} {K : Act → World → Prop} {Q : Exit → Act → World → Prop} (hi : ops[i]? = some o) (hy : YB P ops W o v a) (hw : Below W.heap.size W w)
    (hK : ∀ w', Below w.heap.size w w' → K (a.put o.dst v) w') : wpOp P ops Q i K a w := by
  unfold Go.wpOp
  simp only [hi]
  rcases hy with ⟨hwt, hv⟩ | ⟨hwt, rfl⟩
  · simp only [hwt, if_true]
    refine .inl ?_
    unfold Oper.wp
    rcases hv w hw with e | ⟨f, args, e, hc⟩
    · rw [e]
      exact hK w (Below.refl _ _)
    · rw [e]
      exact hc.mono fun e w' ⟨he, hb⟩ => by subst he; exact hK w' hb
  · simp only [hwt, Bool.false_eq_true, if_false]
    exact hK w (Below.refl _ _)

inductive DetB (P : Program) (md : Region.Mode) (ops : Array Oper) (W : World) (n : Nat) (E : Array Bool → Act → Prop) : Nat → Array Bool → Act → Prop
  | done {listed : Array Bool} {a : Act} : (∀ j ∈ Region.ready md ops listed, n ≤ j) → E listed a → DetB P md ops W n E 0 listed a
  | step {k i : Nat} {listed : Array Bool} {a : Act} {o : Oper} {v : Value} : ops[i]? = some o → i < n → HeadInv md ops n listed → i ∈ Region.ready md ops listed →
      (∀ j oj, ops[j]? = some oj → j ≠ i → listed.getD j true = false → (∀ e ∈ oj.after, Region.binds md e = true → e.on ≠ i) → o.apart ops oj = true) →
      YB P ops W o v a → DetB P md ops W n E k (listed.setIfInBounds i true) (a.put o.dst v) → DetB P md ops W n E (k + 1) listed a
def TailWaitsB (md : Region.Mode) (ops : Array Oper) (n : Nat) : Prop :=
  ∀ listed, HeadInv md ops n listed → ∀ i, i < n → listed.getD i true = false → ∀ t ∈ Region.ready md ops listed, t < n

theorem DetB.any {n : Nat} {E : Array Bool → Act → Prop} (hsel : ∀ (j : Nat) (o : Oper) cs b, ops[j]? = some o → o.op ≠ .select cs b) (hT : TailWaitsB md ops n) :
    ∀ {k : Nat} {listed : Array Bool} {a : Act}, DetB P md ops W n E (k + 1) listed a →
      Region.ready md ops listed ≠ [] ∧ HeadInv md ops n listed ∧ ∀ j ∈ Region.ready md ops listed, j < n ∧ ∃ o v, ops[j]? = some o ∧ YB P ops W o v a ∧ DetB P md ops W n E k (listed.setIfInBounds j true) (a.put o.dst v) := by
  intro k
  induction k with
  | zero =>
    intro listed a h
    cases h with
    | @step _ i _ _ o v ho hin inv hr hap hy hd =>
      refine ⟨fun h => (by rw [h] at hr; cases hr), inv, fun j hj => ⟨hT _ inv i hin (mem_ready.1 hr).1 j hj, ?_⟩⟩
      by_cases hji : j = i
      · subst hji; exact ⟨o, v, ho, hy, hd⟩
      · cases hd with
        | done hge _ => have h1 := hT _ inv i hin (mem_ready.1 hr).1 j hj; have h2 := hge j (ready_mono hj hji); omega
  | succ k ih =>
    intro listed a h
    cases h with
    | @step _ i _ _ o v ho hin inv hr hap hy hd =>
      refine ⟨fun h => (by rw [h] at hr; cases hr), inv, fun j hj => ⟨hT _ inv i hin (mem_ready.1 hr).1 j hj, ?_⟩⟩
      by_cases hji : j = i
      · subst hji; exact ⟨o, v, ho, hy, hd⟩
      · obtain ⟨_, _, h2⟩ := ih hd
        obtain ⟨_, oj, u, hoj, hyj, hdj⟩ := h2 j (ready_mono hj hji)
        obtain ⟨hjun, oj', hoj', hall⟩ := mem_ready.1 hj
        obtain rfl : oj' = oj := Option.some.inj (hoj'.symm.trans hoj)
        have hun := (mem_ready.1 hr).1
        have hnot : ∀ e ∈ oj'.after, Region.binds md e = true → e.on ≠ i := fun e he hb heq => by
          have h1 := hall e he hb
          rw [heq, getD_both hun] at h1
          cases h1
        obtain ⟨a1, a2, a3⟩ := Oper.apart_spec (hap j oj' hoj hji hjun hnot)
        have hyj' := hyj.of_same (a' := a) (execOp_put oj' (fun cs b => hsel j oj' cs b hoj) a o.dst v a1).symm (wanted_put oj' a o.dst v a1).symm
        have hyi' := hy.of_same (a' := a.put oj'.dst u) (execOp_put o (fun cs b => hsel i o cs b ho) a oj'.dst u a3) (wanted_put o a oj'.dst u a3)
        refine ⟨oj', u, hoj, hyj', ?_⟩
        rw [Act.put_comm a v u a2, Array.setIfInBounds_comm _ _ (Ne.symm hji)] at hdj
        refine .step ho hin (inv.set hj (hT _ inv i hin hun j hj)) (ready_mono hr (Ne.symm hji)) ?_ hyi' hdj
        intro m om hm hmi hmun hmno
        refine hap m om hm hmi ?_ hmno
        by_cases hmj : j = m
        · subst hmj; exact hjun
        · rw [getD_set_ne true hmj] at hmun; exact hmun

theorem wpAny_of_detB {n g : Nat} {E : Array Bool → Act → Prop} {Q : Exit → Act → World → Prop} (hsel : ∀ (j : Nat) (o : Oper) cs b, ops[j]? = some o → o.op ≠ .select cs b) (hT : TailWaitsB md ops n)
    (hE : ∀ listed a w, E listed a → Below W.heap.size W w → wpAny P md ops Q g listed a w) :
    ∀ (k : Nat) (listed : Array Bool) (a : Act) (w : World), DetB P md ops W n E k listed a → Below W.heap.size W w → wpAny P md ops Q (k + g) listed a w
  | 0, listed, a, w, h, hw => by
    rw [Nat.zero_add]
    cases h with
    | done _ h => exact hE _ _ _ h hw
  | k + 1, listed, a, w, h, hw => by
    obtain ⟨h1, _, h2⟩ := DetB.any hsel hT h
    rw [show k + 1 + g = (k + g) + 1 by omega]
    refine ⟨fun h0 => absurd h0 h1, fun j hj => ?_⟩
    obtain ⟨_, o, v, ho, hy, hd⟩ := h2 j hj
    exact hy.wpOp ho hw fun w' hb => wpAny_of_detB hsel hT hE k _ _ w' hd (hw.trans (hb.mono hw.size))

/-- a world above W in which the block b was made -/
structure Made (W : World) (t : TypeId) (cs : Array Value) (b : Nat) (w : World) : Prop where
  below : Below W.heap.size W w
  ge : W.heap.size ≤ b
  blk : Blk w b t cs
theorem Made.step {t : TypeId} {cs : Array Value} {b : Nat} {w w' : World} (h : Made W t cs b w) (k : Below w.heap.size w w') : Made W t cs b w' :=
  ⟨h.below.trans (k.mono h.below.size), h.ge, h.blk.below k⟩

variable {f : Nat} {of : Oper} {t : TypeId} {cs : Array Value}
/-- behind the float: its pointer stands in every frame that follows -/
theorem float_behind {n g : Nat} {E : Array Bool → Act → Prop} {Q : Exit → Act → World → Prop} (hsel : ∀ (j : Nat) (o : Oper) cs b, ops[j]? = some o → o.op ≠ .select cs b) (hT : TailWaitsB md ops n)
    (hap : ∀ j o, ops[j]? = some o → j < n → j ≠ f → of.apart ops o = true) (b : Nat)
    (hE : ∀ listed a w, E listed a → Made W t cs b w → wpAny P md ops Q g listed (a.put of.dst (.pointer (some ⟨b, 0, none⟩))) w) :
    ∀ (k : Nat) (listed : Array Bool) (a : Act) (w : World), DetB P md ops W n E k listed a → listed.getD f false = true → Made W t cs b w → wpAny P md ops Q (k + g) listed (a.put of.dst (.pointer (some ⟨b, 0, none⟩))) w
  | 0, listed, a, w, h, _, hw => by
    rw [Nat.zero_add]
    cases h with
    | done _ h => exact hE _ _ _ h hw
  | k + 1, listed, a, w, h, hf, hw => by
    obtain ⟨h1, _, h2⟩ := DetB.any hsel hT h
    rw [show k + 1 + g = (k + g) + 1 by omega]
    refine ⟨fun h0 => absurd h0 h1, fun j hj => ?_⟩
    obtain ⟨hjn, o, v, ho, hy, hd⟩ := h2 j hj
    have hjf : j ≠ f := fun e => by
      subst e
      have := getD_both (mem_ready.1 hj).1
      rw [hf] at this
      cases this
    obtain ⟨a1, a2, a3⟩ := Oper.apart_spec (hap j o ho hjn hjf)
    have hy' := hy.of_same (a' := a.put of.dst (.pointer (some ⟨b, 0, none⟩))) (execOp_put o (fun cs b => hsel j o cs b ho) a of.dst _ a1) (wanted_put o a of.dst _ a1)
    refine hy'.wpOp ho hw.below fun w' hb => ?_
    have := float_behind hsel hT hap b hE k _ _ w' hd (getD_set_true hf) (hw.step hb)
    rw [Act.put_comm a _ v a2]
    exact this

/-- ahead of the float: it may come up at any time -/
theorem float_ahead {n g : Nat} {E : Array Bool → Act → Prop} {Q : Exit → Act → World → Prop} (hsel : ∀ (j : Nat) (o : Oper) cs b, ops[j]? = some o → o.op ≠ .select cs b) (hT : TailWaitsB md ops n)
    (hap : ∀ j o, ops[j]? = some o → j < n → j ≠ f → of.apart ops o = true) (hof : ops[f]? = some of) (hfn : f < n) (hno : of.after.all (fun e => !Region.binds md e) = true)
    (hal : ∀ (a : Act) (w : World), Region.wanted of (yielded ops a.tmps) = true ∧ (execOp a.eval of).run P w = .ok (.value (.pointer (some ⟨w.heap.size, 0, none⟩))) (w.alloc (.cells cs t)))
    (hE : ∀ b listed a w, E listed a → Made W t cs b w → wpAny P md ops Q g listed (a.put of.dst (.pointer (some ⟨b, 0, none⟩))) w) :
    ∀ (k : Nat) (listed : Array Bool) (a : Act) (w : World), DetB P md ops W n E k (listed.setIfInBounds f true) a → HeadInv md ops n listed → listed.getD f true = false → Below W.heap.size W w → wpAny P md ops Q (k + g + 1) listed a w := by
  intro k
  induction k with
  | zero =>
    intro listed a w h inv hf hw
    have hr : f ∈ Region.ready md ops listed := mem_ready.2 ⟨hf, of, hof, fun e he hb => by
      have := Array.all_eq_true_iff_forall_mem.1 hno e he
      rw [hb] at this
      cases this⟩
    have hfs : f < listed.size := by rw [inv.size]; exact (Array.getElem?_eq_some_iff.1 hof).1
    refine ⟨fun h0 => (by rw [h0] at hr; cases hr), fun j hj => ?_⟩
    by_cases hjf : j = f
    · subst hjf
      unfold wpOp
      simp only [hof, (hal a w).1, if_true]
      refine .inl ?_
      unfold Oper.wp
      rw [(hal a w).2]
      exact float_behind hsel hT hap _ (hE _) 0 _ _ _ h (by simp [hfs]) ⟨hw.alloc hw.size _, hw.size, Blk.new w t cs⟩
    · cases h with
      | done hge _ => have h1 := hge j (ready_mono hj hjf); have h2 := hT _ inv f hfn hf j hj; omega
  | succ k ih =>
    intro listed a w h inv hf hw
    have hr : f ∈ Region.ready md ops listed := mem_ready.2 ⟨hf, of, hof, fun e he hb => by
      have := Array.all_eq_true_iff_forall_mem.1 hno e he
      rw [hb] at this
      cases this⟩
    have hfs : f < listed.size := by rw [inv.size]; exact (Array.getElem?_eq_some_iff.1 hof).1
    refine ⟨fun h0 => (by rw [h0] at hr; cases hr), fun j hj => ?_⟩
    by_cases hjf : j = f
    · subst hjf
      unfold wpOp
      simp only [hof, (hal a w).1, if_true]
      refine .inl ?_
      unfold Oper.wp
      rw [(hal a w).2]
      exact float_behind hsel hT hap _ (hE _) (k + 1) _ _ _ h (by simp [hfs]) ⟨hw.alloc hw.size _, hw.size, Blk.new w t cs⟩
    · obtain ⟨_, _, h2⟩ := DetB.any hsel hT h
      obtain ⟨hjn, o, v, ho, hy, hd⟩ := h2 j (ready_mono hj hjf)
      rw [show k + 1 + g = k + g + 1 by omega]
      refine hy.wpOp ho hw fun w' hb => ?_
      rw [Array.setIfInBounds_comm _ _ (Ne.symm hjf)] at hd
      exact ih _ _ w' hd (inv.set hj hjn) (by rw [getD_set_ne true hjf]; exact hf) (hw.trans (hb.mono hw.size))

/-- the check: so many operations from k on, each ready and free; then the tail from n on, one behind the other -/
def headF (md : Region.Mode) (ops : Array Oper) (g n : Nat) : Nat → Nat → Array Bool → Bool
  | 0, _, listed => Region.seqB md ops g n listed
  | m + 1, k, listed => (Region.ready md ops listed).contains k && Region.free md ops listed k && headF md ops g n m (k + 1) (listed.setIfInBounds k true)

/-- the walk in the text's order; nobody looks into it -/
inductive WalkB (P : Program) (ops : Array Oper) (W : World) (Q : Act → Prop) : List Oper → Act → Prop
  | nil {a : Act} : Q a → WalkB P ops W Q [] a
  | cons {o : Oper} {rest : List Oper} {a : Act} {v : Value} : YB P ops W o v a → WalkB P ops W Q rest (a.put o.dst v) → WalkB P ops W Q (o :: rest) a

theorem detB_lex {n g : Nat} {Lq : Act → Prop} :
    ∀ (l : List Oper) (k : Nat) (listed : Array Bool) (a : Act), (∀ j, j < l.length → l[j]? = ops[k + j]?) → k + l.length ≤ n → HeadInv md ops n listed →
    headF md ops g n l.length k listed = true → WalkB P ops W Lq l a →
    DetB P md ops W n (fun listed' a' => Region.seqB md ops g n listed' = true ∧ Lq a') l.length listed a
  | [], k, listed, a, _, _, _, hB, h => by
    have hs : Region.seqB md ops g n listed = true := by simpa [headF] using hB
    cases h with
    | nil h => exact .done (seqB_ready hs) ⟨hs, h⟩
  | o :: l, k, listed, a, hl, hk, inv, hB, h => by
    have h0 : ops[k]? = some o := by simpa using (hl 0 (by simp)).symm
    simp only [List.length_cons, headF, Bool.and_eq_true] at hB
    obtain ⟨⟨hr, hf⟩, hB'⟩ := hB
    have hkn : k < n := by simp only [List.length_cons] at hk; omega
    have hr' : k ∈ Region.ready md ops listed := by simpa using hr
    cases h with
    | cons hy hd =>
      refine .step h0 hkn inv hr' (Region.free_spec h0 hf) hy ?_
      exact (detB_lex l (k + 1) _ _ (fun j hj => by have := hl (j + 1) (by simp; omega); simpa [Nat.add_assoc, Nat.add_comm 1 j] using this) (by simp only [List.length_cons] at hk; omega) (inv.set hr' hkn) hB' hd)

def tailOkB (ops : Array Oper) (n : Nat) : Bool := Region.noSelect ops && (decide (n = ops.size) || (decide (n < ops.size) && Region.sinkB .any ops n && Region.chainB .any ops n))
theorem tailOkB_spec {n : Nat} (h : tailOkB ops n = true) : Region.noSelect ops = true ∧ n ≤ ops.size ∧ TailWaitsB .any ops n := by
  simp only [tailOkB, Bool.and_eq_true, Bool.or_eq_true, decide_eq_true_eq] at h
  obtain ⟨hsel, hn⟩ := h
  refine ⟨hsel, ?_, ?_⟩
  · rcases hn with h | ⟨⟨h, _⟩, _⟩ <;> omega
  · intro listed inv i hi hun t ht
    rcases hn with h | ⟨⟨h, hs⟩, hc⟩
    · obtain ⟨_, o, ho, _⟩ := mem_ready.1 ht
      have := (Array.getElem?_eq_some_iff.1 ho).1
      omega
    · rcases Nat.lt_or_ge t n with h1 | h1
      · exact h1
      · exact absurd ht (tail_waits hs hc h inv _ i rfl hi hun t h1)
theorem inv_new (n : Nat) : HeadInv md ops n (Array.replicate ops.size false) :=
  ⟨by simp, fun j oj _ hl => (by rw [getD_replicate_false] at hl; cases hl), fun t _ ht => getD_in (by simpa using ht) (getD_replicate_false _ _)⟩

/-- n operations, then the rest one behind the other -/
theorem wp_region_b {id : Nat} {Q : Exit → Act → World → Prop} {a : Act} {w : World} {l : List Oper} (n : Nat) (hm : P.follows .mixedOrders = true)
    (hB : (tailOkB l.toArray n && headF .any l.toArray (l.toArray.size - n) n n 0 (Array.replicate l.toArray.size false)) = true)
    (h : WalkB P l.toArray w (fun a' => ∀ w', Below w.heap.size w w' → wpList P l.toArray Q (l.drop n) a' w') (l.take n) a) : (Code.region id l.toArray true).wp P Q a w := by
  rw [Bool.and_eq_true] at hB
  obtain ⟨hok, hlex⟩ := hB
  obtain ⟨hsel, hnl, hT⟩ := tailOkB_spec hok
  have htl : (l.take n).length = n := by simp at hnl ⊢; omega
  have hdl : (l.drop n).length = l.toArray.size - n := by simp
  have H := detB_lex (P := P) (md := .any) (W := w) (n := n) (g := l.toArray.size - n) (l.take n) 0 _ a (fun j hj => by
    have hj' : j < n := by rw [htl] at hj; exact hj
    simp [hj']) (by rw [htl]; omega) (inv_new n) (by rw [htl]; exact hlex) h
  refine wp_region_any hm ?_
  have := wpAny_of_detB (Q := Q) (g := l.toArray.size - n) (Region.noSelect_spec hsel) hT (fun listed a' w' hL hw => by
    have := wpAny_of_seq (md := .any) (Q' := Q) (l.drop n) n listed a' w' (fun j => by simp [List.getElem?_drop]) (by rw [hdl]; exact hL.1) (hL.2 w' hw)
    rwa [hdl] at this) _ _ _ w.drew H (Below.refl _ _).drew
  rw [htl, show n + (l.toArray.size - n) = l.toArray.size by omega] at this
  exact this

/-- n operations and, right behind them in the text, a variable that is made (at any time); then the rest one behind the other -/
theorem wp_region_f {id : Nat} {Q : Exit → Act → World → Prop} {a : Act} {w : World} {l : List Oper} (n : Nat) (t : TypeId) (cs : Array Value) {of : Oper} (hm : P.follows .mixedOrders = true) (hof : l[n]? = some of)
    (hB : (tailOkB l.toArray (n + 1) && headF .any l.toArray (l.toArray.size - (n + 1)) (n + 1) n 0 ((Array.replicate l.toArray.size false).setIfInBounds n true) && of.after.all (fun e => !Region.binds .any e) && (l.take n).all (fun o => of.apart l.toArray o) && of.guard.isNone) = true)
    (hal : ∀ (ρ : Operand → Value) (w : World), (execOp ρ of).run P w = .ok (.value (.pointer (some ⟨w.heap.size, 0, none⟩))) (w.alloc (.cells cs t)))
    (h : WalkB P l.toArray w (fun a' => ∀ b w', Made w t cs b w' → wpList P l.toArray Q (l.drop (n + 1)) (a'.put of.dst (.pointer (some ⟨b, 0, none⟩))) w') (l.take n) a) : (Code.region id l.toArray true).wp P Q a w := by
  simp only [Bool.and_eq_true] at hB
  obtain ⟨⟨⟨⟨hok, hlex⟩, hno⟩, hap⟩, hgd⟩ := hB
  obtain ⟨hsel, hnl, hT⟩ := tailOkB_spec hok
  have hnl' : n < l.length := by simp at hnl; omega
  have htl : (l.take n).length = n := by simp; omega
  have hdl : (l.drop (n + 1)).length = l.toArray.size - (n + 1) := by simp
  have hof' : l.toArray[n]? = some of := by simpa using hof
  have inv1 : HeadInv .any l.toArray (n + 1) ((Array.replicate l.toArray.size false).setIfInBounds n true) :=
    (inv_new (n + 1)).set (mem_ready.2 ⟨getD_in (by simpa using hnl') (getD_replicate_false _ _), of, hof', fun e he hb => by
      have := Array.all_eq_true_iff_forall_mem.1 hno e he
      rw [hb] at this
      cases this⟩) (by omega)
  have H := detB_lex (P := P) (md := .any) (W := w) (n := n + 1) (g := l.toArray.size - (n + 1)) (l.take n) 0 _ a (fun j hj => by
    have hj' : j < n := by rw [htl] at hj; exact hj
    simp [hj']) (by rw [htl]; omega) inv1 (by rw [htl]; exact hlex) h
  refine wp_region_any hm ?_
  have hwt : ∀ a : Act, Region.wanted of (yielded l.toArray a.tmps) = true := fun a => by
    have : of.guard = none := by simpa using hgd
    simp [Region.wanted, this]
  have := float_ahead (Q := Q) (f := n) (of := of) (t := t) (cs := cs) (g := l.toArray.size - (n + 1)) (Region.noSelect_spec hsel) hT (fun j o ho hj hjn => by
      have hjn' : j < n := by omega
      have ho' : (l.take n)[j]? = some o := by rw [List.getElem?_take]; simp [hjn']; simpa using ho
      exact List.all_eq_true.1 hap o (List.mem_of_getElem? ho')) hof' (by omega) hno (fun a w => ⟨hwt a, hal _ _⟩)
    (fun b listed a' w' hL hw => by
      have := wpAny_of_seq (md := .any) (Q' := Q) (l.drop (n + 1)) (n + 1) listed (a'.put of.dst (.pointer (some ⟨b, 0, none⟩))) w' (fun j => by simp [List.getElem?_drop]) (by rw [hdl]; exact hL.1) (hL.2 b w' hw)
      rwa [hdl] at this) _ _ _ w.drew H (inv_new (n + 1)) (getD_in (by simpa using hnl') (getD_replicate_false _ _)) (Below.refl _ _).drew
  rw [htl, show n + (l.toArray.size - (n + 1)) + 1 = l.toArray.size by simp at hnl ⊢; omega] at this
  exact this

variable {Q : Act → Prop} {a : Act} {o : Oper} {rest : List Oper}
theorem lb_skip (hw : Region.wanted o (yielded ops a.tmps) = false) (h : ∃ a', a.put o.dst undef = a' ∧ WalkB P ops W Q rest a') : WalkB P ops W Q (o :: rest) a := by
  obtain ⟨a', ha, h⟩ := h
  exact .cons (.inr ⟨hw, rfl⟩) (by rw [ha]; exact h)
theorem lb_val (hw : Region.wanted o (yielded ops a.tmps) = true) (h : ∃ v, (∀ w, Below W.heap.size W w → (execOp a.eval o).run P w = .ok (.value v) w) ∧ ∃ a', a.put o.dst v = a' ∧ WalkB P ops W Q rest a') : WalkB P ops W Q (o :: rest) a := by
  obtain ⟨v, hv, a', ha, h⟩ := h
  exact .cons (.inl ⟨hw, fun w hb => .inl (hv w hb)⟩) (by rw [ha]; exact h)
theorem lb_move (x : Operand) (hw : Region.wanted o (yielded ops a.tmps) = true) (hop : o.op = .move x) (h : ∃ v, a.eval x = v ∧ ∃ a', a.put o.dst v = a' ∧ WalkB P ops W Q rest a') : WalkB P ops W Q (o :: rest) a := by
  obtain ⟨v, hv, h⟩ := h
  exact lb_val hw ⟨v, fun w _ => by rw [BigFrame.run_move x hop, hv], h⟩
theorem lb_assign (x : Operand) (hw : Region.wanted o (yielded ops a.tmps) = true) (hop : o.op = .assign x) (h : ∃ v, a.eval x = v ∧ ∃ a', a.put o.dst v = a' ∧ WalkB P ops W Q rest a') : WalkB P ops W Q (o :: rest) a := by
  obtain ⟨v, hv, h⟩ := h
  exact lb_val hw ⟨v, fun w _ => by rw [BigFrame.run_assign x hop, hv], h⟩
theorem lb_call {v : Value} {f : FuncId} {args : Array Value} (hw : Region.wanted o (yielded ops a.tmps) = true) (hc : ∀ w, Below W.heap.size W w → Calls P f args w fun e w' => e = .returned v ∧ Below w.heap.size w w') (hv : ∀ w, (execOp a.eval o).run P w = .ok (.enter f args) w)
    (h : ∃ a', a.put o.dst v = a' ∧ WalkB P ops W Q rest a') : WalkB P ops W Q (o :: rest) a := by
  obtain ⟨a', ha, h⟩ := h
  exact .cons (.inl ⟨hw, fun w hb => .inr ⟨f, args, hv w, hc w hb⟩⟩) (by rw [ha]; exact h)
end
end Go.Proofs.Ytedbjkmgfcnkeaa

/- Drawn regions in the text's order: operations that only tell what stays so (they may come at any time), others each of which is alone when it comes, and a tail behind all of them. No program. -/
namespace Go.Proofs.Ytedbjkmgfcnkeaa
open Go.RowKit

section
variable {P : Program} {ops : Array Oper} {md : Region.Mode} {C : World → Prop}

/-- nothing but a value -/
def Qz : Exit → Act → World → Prop := fun _ _ _ => False
theorem letsOut_qz : ¬ LetsOut Qz := fun h => by
  obtain ⟨_, _, h⟩ := h
  exact h
theorem Oper.wp_of_z {o : Oper} {a : Act} {w : World} {K : Act → World → Prop} {Q : Exit → Act → World → Prop} (h : o.wp P a w K Qz) : o.wp P a w K Q := by
  unfold Oper.wp at *
  generalize (execOp a.eval o).run P w = r at *
  cases r with
  | ok n w' =>
    cases n <;> simp only [Oper.upon] at h ⊢
    case enter f args =>
      refine Calls.mono h fun e w'' he => ?_
      cases e with
      | returned u => exact he
      | panicked c => exact absurd he (by simp [Qz])
      | outgrown => exact absurd he letsOut_qz
    all_goals first | exact h | exact absurd h (by simp)
  | halt x w' =>
    cases x <;> simp only [Oper.upon] at h ⊢
    case panic u => exact absurd h (by simp [Qz])
theorem wpOp_of_z {i : Nat} {a : Act} {w : World} {K : Act → World → Prop} {Q : Exit → Act → World → Prop} (h : wpOp P ops Qz i K a w) : wpOp P ops Q i K a w := by
  unfold wpOp at *
  split
  · rename_i h0; simpa [h0] using h
  · rename_i o ho
    simp only [ho] at h
    split
    · rename_i hw
      simp only [hw, if_true] at h
      rcases h with h | ⟨_, h⟩
      · exact .inl (Oper.wp_of_z h)
      · exact absurd h letsOut_qz
    · rename_i hw; simpa [hw] using h

/-- in every world of the class it tells v, and nothing turns -/
def StC (P : Program) (ops : Array Oper) (C : World → Prop) (o : Oper) (v : Value) (a : Act) : Prop :=
  (Region.wanted o (yielded ops a.tmps) = true ∧ ∀ w, C w → (execOp a.eval o).run P w = .ok (.value v) w) ∨ (Region.wanted o (yielded ops a.tmps) = false ∧ v = undef)
theorem StC.of_same {o : Oper} {v : Value} {a a' : Act} (hy : StC P ops C o v a) (he : execOp a'.eval o = execOp a.eval o)
    (hw : Region.wanted o (yielded ops a'.tmps) = Region.wanted o (yielded ops a.tmps)) : StC P ops C o v a' := by
  unfold StC at *
  rw [he, hw]
  exact hy
theorem StC.wpOp {i : Nat} {o : Oper} {v : Value} {a : Act} {w : World} {K : Act → World → Prop} {Q : Exit → Act → World → Prop} (hi : ops[i]? = some o) (hy : StC P ops C o v a) (hw : C w)
    (hK : K (a.put o.dst v) w) : wpOp P ops Q i K a w := by
  unfold Go.wpOp
  simp only [hi]
  rcases hy with ⟨hwt, hv⟩ | ⟨hwt, rfl⟩
  · simp only [hwt, if_true, Oper.wp, hv w hw, Oper.upon]
    exact .inl hK
  · simp only [hwt, Bool.false_eq_true, if_false]
    exact hK

theorem wpOp_putC {j : Nat} {oi oj : Oper} {v : Value} (hj : ops[j]? = some oj) (hap : oi.apart ops oj = true)
    (hsi : ∀ cs b, oi.op ≠ .select cs b) (hsj : ∀ cs b, oj.op ≠ .select cs b) {K : Act → World → Prop} {a : Act} {w : World}
    (hy : StC P ops C oi v a) (h : wpOp P ops Qz j K (a.put oi.dst v) w) :
    wpOp P ops Qz j (fun a' w' => StC P ops C oi v a' ∧ K (a'.put oi.dst v) w') a w := by
  obtain ⟨h1, h2, h3⟩ := Oper.apart_spec hap
  have keep : ∀ (a : Act), StC P ops C oi v a → ∀ u, StC P ops C oi v (a.put oj.dst u) := fun a hy u =>
    hy.of_same (execOp_put oi hsi a oj.dst u h3) (wanted_put oi a oj.dst u h3)
  have keepD : ∀ d, StC P ops C oi v { a with defers := d :: a.defers } := fun d => hy.of_same rfl rfl
  unfold wpOp at *
  simp only [hj] at *
  rw [wanted_put oj a oi.dst v h1] at h
  split
  · rename_i hw
    simp only [hw, if_true] at h
    rcases h with h | ⟨_, hlets⟩
    case inr => exact absurd hlets letsOut_qz
    refine .inl ?_
    unfold Oper.wp at *
    rw [execOp_put oj hsj a oi.dst v h1] at h
    generalize (execOp a.eval oj).run P w = r at *
    cases r with
    | ok n w' =>
      cases n <;> simp only [Oper.upon] at h ⊢
      case value u => exact ⟨keep a hy u, by rw [← Act.put_comm a v u h2]; exact h⟩
      case skip => exact ⟨keep a hy _, by rw [← Act.put_comm a v undef h2]; exact h⟩
      case defer d =>
        refine ⟨keep _ (keepD d) _, ?_⟩
        rw [← Act.put_comm _ v undef h2, ← Act.put_defers]
        exact h
      case enter f args =>
        refine Calls.mono h fun e w'' he => ?_
        cases e with
        | returned u => exact ⟨keep a hy u, by rw [← Act.put_comm a v u h2]; exact he⟩
        | panicked c => exact absurd he (by simp [Qz])
        | outgrown => exact he
      case row row args => exact Rows.mono h fun u w'' he => ⟨keep a hy u, by rw [← Act.put_comm a v u h2]; exact he⟩
    | halt x w' =>
      cases x <;> simp only [Oper.upon] at h ⊢
      case panic u => exact absurd h (by simp [Qz])
  · rename_i hw
    simp only [hw] at h
    exact ⟨keep a hy _, by rw [← Act.put_comm a v undef h2]; exact h⟩

/-- so many operations below m, each of which may come up, then E -/
def wpAnyT (P : Program) (md : Region.Mode) (ops : Array Oper) (C : World → Prop) (m : Nat) (E : Array Bool → Act → World → Prop) : Nat → Array Bool → Act → World → Prop
  | 0, listed, a, w => C w ∧ (∀ j ∈ Region.ready md ops listed, m ≤ j) ∧ E listed a w
  | k + 1, listed, a, w => C w ∧ Region.ready md ops listed ≠ [] ∧ ∀ i ∈ Region.ready md ops listed, i < m ∧ wpOp P ops Qz i (wpAnyT P md ops C m E k (listed.setIfInBounds i true)) a w
theorem wpAnyT.c {m k : Nat} {E : Array Bool → Act → World → Prop} {listed : Array Bool} {a : Act} {w : World} (h : wpAnyT P md ops C m E k listed a w) : C w := by
  cases k with
  | zero => exact h.1
  | succ k => exact h.1

theorem wpAnyT_first {m i : Nat} {oi : Oper} {v : Value} {E : Array Bool → Act → World → Prop} (hi : ops[i]? = some oi) (him : i < m) (hsel : ∀ (j : Nat) (o : Oper) cs b, ops[j]? = some o → o.op ≠ .select cs b) (hT : TailWaitsB md ops m) :
    ∀ (fuel : Nat) (listed : Array Bool) (a : Act) (w : World), HeadInv md ops m listed →
      (∀ j oj, ops[j]? = some oj → j ≠ i → listed.getD j true = false → (∀ e ∈ oj.after, Region.binds md e = true → e.on ≠ i) → oi.apart ops oj = true) →
      i ∈ Region.ready md ops listed → StC P ops C oi v a →
      wpAnyT P md ops C m E fuel (listed.setIfInBounds i true) (a.put oi.dst v) w → wpAnyT P md ops C m E (fuel + 1) listed a w := by
  intro fuel
  induction fuel with
  | zero =>
    intro listed a w inv _ hr hy H
    refine ⟨H.c, fun h => (by rw [h] at hr; cases hr), fun j hj => ?_⟩
    by_cases hji : j = i
    · subst hji; exact ⟨him, hy.wpOp hi H.c H⟩
    · have h1 := H.2.1 j (ready_mono hj hji)
      have h2 := hT listed inv i him (mem_ready.1 hr).1 j hj
      omega
  | succ fuel ih =>
    intro listed a w inv hfree hr hy H
    refine ⟨H.c, fun h => (by rw [h] at hr; cases hr), fun j hj => ?_⟩
    by_cases hji : j = i
    · subst hji; exact ⟨him, hy.wpOp hi H.c H⟩
    · obtain ⟨hjm, h1⟩ := H.2.2 j (ready_mono hj hji)
      obtain ⟨hjun, oj, hoj, hall⟩ := mem_ready.1 hj
      have hnot : ∀ e ∈ oj.after, Region.binds md e = true → e.on ≠ i := fun e he hb heq => by
        have h1 := hall e he hb
        rw [heq, getD_both (mem_ready.1 hr).1] at h1
        cases h1
      have h2 := wpOp_putC hoj (hfree j oj hoj hji hjun hnot) (fun cs b => hsel i oi cs b hi) (fun cs b => hsel j oj cs b hoj) hy h1
      have hfree' : ∀ k ok, ops[k]? = some ok → k ≠ i → (listed.setIfInBounds j true).getD k true = false →
          (∀ e ∈ ok.after, Region.binds md e = true → e.on ≠ i) → oi.apart ops ok = true := fun k ok hk hki hun hno => by
        refine hfree k ok hk hki ?_ hno
        by_cases hjk : j = k
        · subst hjk; exact hjun
        · rw [getD_set_ne true hjk] at hun; exact hun
      refine ⟨hjm, wpOp_mono (fun a' w' h3 => ih (listed.setIfInBounds j true) a' w' (inv.set hj hjm) hfree' (ready_mono hr (Ne.symm hji)) h3.1 ?_) h2⟩
      rw [Array.setIfInBounds_comm _ _ hji]
      exact h3.2

theorem wpAny_of_T {m g : Nat} {E : Array Bool → Act → World → Prop} {Q : Exit → Act → World → Prop} (hE : ∀ listed a w, E listed a w → wpAny P md ops Q g listed a w) :
    ∀ (k : Nat) (listed : Array Bool) (a : Act) (w : World), wpAnyT P md ops C m E k listed a w → wpAny P md ops Q (k + g) listed a w
  | 0, listed, a, w, h => by rw [Nat.zero_add]; exact hE _ _ _ h.2.2
  | k + 1, listed, a, w, h => by
    rw [show k + 1 + g = (k + g) + 1 by omega]
    exact ⟨fun h0 => absurd h0 h.2.1, fun j hj => wpOp_mono (fun a' w' h' => wpAny_of_T hE k _ a' w' h') (wpOp_of_z (h.2.2 j hj).2)⟩

/-- the walk in the text's order: true: it only tells; false: it is alone -/
def wpMix (P : Program) (ops : Array Oper) (C : World → Prop) (E : Act → World → Prop) : List Bool → List Oper → Act → World → Prop
  | [], [], a, w => C w ∧ E a w
  | true :: ks, o :: l, a, w => ∃ v, StC P ops C o v a ∧ wpMix P ops C E ks l (a.put o.dst v) w
  | false :: ks, o :: l, a, w => C w ∧ ((Region.wanted o (yielded ops a.tmps) = true ∧ o.wp P a w (wpMix P ops C E ks l) Qz) ∨ (Region.wanted o (yielded ops a.tmps) = false ∧ wpMix P ops C E ks l (a.put o.dst undef) w))
  | _, _, _, _ => False
/-- nobody looks into it -/
structure MixW (P : Program) (ops : Array Oper) (C : World → Prop) (E : Act → World → Prop) (ks : List Bool) (l : List Oper) (a : Act) (w : World) : Prop where
  go : wpMix P ops C E ks l a w

def mixB (md : Region.Mode) (ops : Array Oper) (g : Nat) : List Bool → Nat → Array Bool → Bool
  | [], k, listed => Region.seqB md ops g k listed
  | true :: ks, k, listed => (Region.ready md ops listed).contains k && Region.free md ops listed k && mixB md ops g ks (k + 1) (listed.setIfInBounds k true)
  | false :: ks, k, listed => decide (Region.ready md ops listed = [k]) && mixB md ops g ks (k + 1) (listed.setIfInBounds k true)

theorem mix_lex {m g : Nat} {Lq : Act → World → Prop} (hsel : ∀ (j : Nat) (o : Oper) cs b, ops[j]? = some o → o.op ≠ .select cs b) (hT : TailWaitsB md ops m) :
    ∀ (ks : List Bool) (l : List Oper) (k : Nat) (listed : Array Bool) (a : Act) (w : World), (∀ j, j < l.length → l[j]? = ops[k + j]?) → k + l.length = m → HeadInv md ops m listed →
    mixB md ops g ks k listed = true → wpMix P ops C Lq ks l a w →
    wpAnyT P md ops C m (fun listed' a' w' => Region.seqB md ops g m listed' = true ∧ Lq a' w') l.length listed a w
  | [], [], k, listed, a, w, _, hk, _, hB, h => by
    have : k = m := by simpa using hk
    subst this
    exact ⟨h.1, seqB_ready hB, hB, h.2⟩
  | true :: ks, o :: l, k, listed, a, w, hl, hk, inv, hB, h => by
    have h0 : ops[k]? = some o := by simpa using (hl 0 (by simp)).symm
    simp only [mixB, Bool.and_eq_true] at hB
    obtain ⟨⟨hr, hf⟩, hB'⟩ := hB
    have hkm : k < m := by simp only [List.length_cons] at hk; omega
    have hr' : k ∈ Region.ready md ops listed := by simpa using hr
    obtain ⟨v, hy, h'⟩ := h
    exact wpAnyT_first h0 hkm hsel hT _ listed a w inv (Region.free_spec h0 hf) hr' hy
      (mix_lex hsel hT ks l (k + 1) _ _ w (fun j hj => by have := hl (j + 1) (by simp; omega); simpa [Nat.add_assoc, Nat.add_comm 1 j] using this) (by simp only [List.length_cons] at hk; omega) (inv.set hr' hkm) hB' h')
  | false :: ks, o :: l, k, listed, a, w, hl, hk, inv, hB, h => by
    have h0 : ops[k]? = some o := by simpa using (hl 0 (by simp)).symm
    simp only [mixB, Bool.and_eq_true, decide_eq_true_eq] at hB
    obtain ⟨hr, hB'⟩ := hB
    have hkm : k < m := by simp only [List.length_cons] at hk; omega
    obtain ⟨hc, h'⟩ := h
    refine ⟨hc, fun h1 => (by rw [hr] at h1; cases h1), fun i hi => ?_⟩
    have hi' := hi
    rw [hr] at hi
    have hik : i = k := by simpa using hi
    subst hik
    refine ⟨hkm, ?_⟩
    have rec_ : ∀ a' w', wpMix P ops C Lq ks l a' w' → wpAnyT P md ops C m (fun listed' a' w' => Region.seqB md ops g m listed' = true ∧ Lq a' w') l.length (listed.setIfInBounds i true) a' w' := fun a' w' h2 =>
      mix_lex hsel hT ks l (i + 1) _ a' w' (fun j hj => by have := hl (j + 1) (by simp; omega); simpa [Nat.add_assoc, Nat.add_comm 1 j] using this) (by simp only [List.length_cons] at hk; omega) (inv.set hi' hkm) hB' h2
    unfold wpOp
    simp only [h0]
    rcases h' with ⟨hw, h'⟩ | ⟨hw, h'⟩
    · simp only [hw, if_true]
      exact .inl (Oper.wp_mono rec_ h')
    · simp only [hw, Bool.false_eq_true, if_false]
      exact rec_ _ _ h'
  | [], _ :: _, _, _, _, _, _, _, _, _, h => h.elim
  | true :: _, [], _, _, _, _, _, _, _, _, h => h.elim
  | false :: _, [], _, _, _, _, _, _, _, _, h => h.elim

/-- the first operations by kinds, the rest one behind the other -/
theorem wp_region_m {id : Nat} {Q : Exit → Act → World → Prop} {a : Act} {w : World} {l : List Oper} (ks : List Bool) (C : World → Prop) (hm : P.follows .mixedOrders = true)
    (hB : (tailOkB l.toArray ks.length && mixB .any l.toArray (l.toArray.size - ks.length) ks 0 (Array.replicate l.toArray.size false)) = true)
    (h : MixW P l.toArray C (fun a' w' => wpList P l.toArray Q (l.drop ks.length) a' w') ks (l.take ks.length) a w.drew) : (Code.region id l.toArray true).wp P Q a w := by
  rw [Bool.and_eq_true] at hB
  obtain ⟨hok, hlex⟩ := hB
  obtain ⟨hsel, hnl, hT⟩ := tailOkB_spec hok
  have htl : (l.take ks.length).length = ks.length := by simp at hnl ⊢; omega
  have hdl : (l.drop ks.length).length = l.toArray.size - ks.length := by simp
  have H := mix_lex (P := P) (md := .any) (m := ks.length) (g := l.toArray.size - ks.length) (Region.noSelect_spec hsel) hT ks (l.take ks.length) 0 _ a w.drew (fun j hj => by
    have hj' : j < ks.length := by rw [htl] at hj; exact hj
    simp [hj']) (by rw [htl]; omega) (inv_new ks.length) hlex h.go
  refine wp_region_any hm ?_
  have := wpAny_of_T (Q := Q) (g := l.toArray.size - ks.length) (fun listed a' w' hL => by
    have := wpAny_of_seq (md := .any) (Q' := Q) (l.drop ks.length) ks.length listed a' w' (fun j => by simp [List.getElem?_drop]) (by rw [hdl]; exact hL.1) hL.2
    rwa [hdl] at this) _ _ _ _ H
  rw [htl, show ks.length + (l.toArray.size - ks.length) = l.toArray.size by omega] at this
  exact this

variable {E : Act → World → Prop} {ks : List Bool} {o : Oper} {rest : List Oper} {a : Act} {w : World}
theorem mx_skip (hw : Region.wanted o (yielded ops a.tmps) = false) (h : ∃ a', a.put o.dst undef = a' ∧ MixW P ops C E ks rest a' w) : MixW P ops C E (true :: ks) (o :: rest) a w := by
  obtain ⟨a', ha, h⟩ := h
  exact ⟨undef, .inr ⟨hw, rfl⟩, by rw [ha]; exact h.go⟩
theorem mx_val (hw : Region.wanted o (yielded ops a.tmps) = true) (h : ∃ v, (∀ w, C w → (execOp a.eval o).run P w = .ok (.value v) w) ∧ ∃ a', a.put o.dst v = a' ∧ MixW P ops C E ks rest a' w) : MixW P ops C E (true :: ks) (o :: rest) a w := by
  obtain ⟨v, hv, a', ha, h⟩ := h
  exact ⟨v, .inl ⟨hw, hv⟩, by rw [ha]; exact h.go⟩
theorem mx_move (x : Operand) (hw : Region.wanted o (yielded ops a.tmps) = true) (hop : o.op = .move x) (h : ∃ v, a.eval x = v ∧ ∃ a', a.put o.dst v = a' ∧ MixW P ops C E ks rest a' w) : MixW P ops C E (true :: ks) (o :: rest) a w := by
  obtain ⟨v, hv, h⟩ := h
  exact mx_val hw ⟨v, fun w _ => by rw [BigFrame.run_move x hop, hv], h⟩
theorem mx_assign (x : Operand) (hw : Region.wanted o (yielded ops a.tmps) = true) (hop : o.op = .assign x) (h : ∃ v, a.eval x = v ∧ ∃ a', a.put o.dst v = a' ∧ MixW P ops C E ks rest a' w) : MixW P ops C E (true :: ks) (o :: rest) a w := by
  obtain ⟨v, hv, h⟩ := h
  exact mx_val hw ⟨v, fun w _ => by rw [BigFrame.run_assign x hop, hv], h⟩
/-- alone: a value, and a world -/
theorem mx_alone (hc : C w) (hw : Region.wanted o (yielded ops a.tmps) = true) (h : ∃ v w', (execOp a.eval o).run P w = .ok (.value v) w' ∧ ∃ a', a.put o.dst v = a' ∧ MixW P ops C E ks rest a' w') : MixW P ops C E (false :: ks) (o :: rest) a w := by
  obtain ⟨v, w', hv, a', ha, h⟩ := h
  refine ⟨hc, .inl ⟨hw, ?_⟩⟩
  unfold Oper.wp
  rw [hv]
  show wpMix P ops C E ks rest (a.put o.dst v) w'
  rw [ha]
  exact h.go
/-- alone: a call -/
theorem mx_call {f : FuncId} {args : Array Value} {R : Ending → World → Prop} (hc : C w) (hw : Region.wanted o (yielded ops a.tmps) = true) (hv : (execOp a.eval o).run P w = .ok (.enter f args) w) (hcall : Calls P f args w R)
    (h : ∀ e w', R e w' → ∃ v, e = .returned v ∧ ∃ a', a.put o.dst v = a' ∧ MixW P ops C E ks rest a' w') : MixW P ops C E (false :: ks) (o :: rest) a w := by
  refine ⟨hc, .inl ⟨hw, ?_⟩⟩
  unfold Oper.wp
  rw [hv]
  refine hcall.mono fun e w' he => ?_
  obtain ⟨v, rfl, a', ha, h⟩ := h e w' he
  show wpMix P ops C E ks rest (a.put o.dst v) w'
  rw [ha]
  exact h.go
theorem mx_idle (hc : C w) (hw : Region.wanted o (yielded ops a.tmps) = false) (h : ∃ a', a.put o.dst undef = a' ∧ MixW P ops C E ks rest a' w) : MixW P ops C E (false :: ks) (o :: rest) a w := by
  obtain ⟨a', ha, h⟩ := h
  exact ⟨hc, .inr ⟨hw, by rw [ha]; exact h.go⟩⟩
theorem mx_end (hc : C w) (h : E a w) : MixW P ops C E [] [] a w := ⟨hc, h⟩
end
end Go.Proofs.Ytedbjkmgfcnkeaa

/- tree.Tree.Set. -/
namespace Go.Proofs.Ytedbjkmgfcnkeaa
open Go.RowKit Go.Maps

/-- what a call of Set leaves -/
structure TreeTo (w : World) (tb : Nat) (mo : Option Nat) (T : List (List UInt8 × LP)) (w' : World) : Prop where
  at_ : ∃ mo' L', TreeAt w' tb mo' L' ∧ Hid (plainL L' = T) ∧ ∀ m, mo' = some m → mo = some m ∨ w.heap.size ≤ m
  fr : Fr (fun g => g = tb ∨ mo = some g) w w'
theorem TreeTo.of {w w' : World} {tb : Nat} {mo : Option Nat} {L : List (List UInt8 × LV)} (h : TreeAt w tb mo L) (k : Below w.heap.size w w') : TreeTo w tb mo (plainL L) w' :=
  ⟨⟨mo, L, h.below k, rfl, fun _ e => .inl e⟩, Fr.of_below k _⟩
theorem plain_put (L : List (List UInt8 × LV)) (p : List UInt8) (o : LV) : plainL (putR L p o) = putR (plainL L) p o.p := (put_map LV.p L p o).symm
theorem plain_without (L : List (List UInt8 × LV)) (p : List UInt8) : plainL (withoutR L p) = withoutR (plainL L) p := (without_map LV.p L p).symm
theorem mapL_put (L : List (List UInt8 × LV)) (p : List UInt8) (o : LV) : mapL (putR L p o) = putR (mapL L) p o.v := (put_map LV.v L p o).symm
theorem mapL_without (L : List (List UInt8 × LV)) (p : List UInt8) : mapL (withoutR L p) = withoutR (mapL L) p := (without_map LV.v L p).symm
theorem MapAt.below {P : Program} {K : TypeId} {w w' : World} {b : Nat} {L : List (List UInt8 × Value)} (h : MapAt w P K b L) (k : Below w.heap.size w w') : MapAt w' P K b L := h.block (k.block b h.lt)
theorem map_eq_nil (w : World) (m : Option Nat) : (binOp .eql 56 (.map m) (.map none)).run Try.prog w = .ok (.bool m.isNone) w := run_eql_map_nil w _ _ _ m Try.underlying56
/-- bytes do not stand where a map's pointer stands -/
theorem By.not_map {w : World} {Z : Nat → Prop} {A : Option Addr} {l : List UInt8} {tb : Nat} {t : TypeId} {mo : Option Nat} (h : By w Z A l) (hb : Blk w tb t #[.map mo]) : By w (fun b => b ≠ tb) A l := by
  refine ⟨h.1, fun hn => ?_⟩
  obtain ⟨b, off, e, hz, hlt, hc⟩ := h.2 hn
  refine ⟨b, off, e, fun eb => ?_, hlt, hc⟩
  subst eb
  rcases l with _ | ⟨x, l⟩
  · simp at hn
  · have h1 := hc 0 (bv x) rfl
    rw [hb.cell] at h1
    rcases Nat.eq_zero_or_pos (off + 0) with h0 | h0
    · rw [h0] at h1; simp [bv] at h1
    · rw [Array.getElem?_eq_none (by simp; omega)] at h1; cases h1
/-- the map written -/
theorem TreeAt.stored {w w' : World} {tb mb : Nat} {L : List (List UInt8 × LV)} {p : List UInt8} {o : LV} (hb : Blk w tb 58 #[.map (some mb)]) (hm : MapAt w' Try.prog 9 mb (putR (mapL L) p o.v)) (hg : w.grownBy w' (some mb)) (hne : mb ≠ tb)
    (hok : ∀ x ∈ L, x.2.x.ok w (fun b => b ≠ tb ∧ some mb ≠ some b)) (ho : o.x.ok w (fun b => b ≠ tb ∧ some mb ≠ some b)) (hpl : TreeOk (plainL (putR L p o))) : TreeAt w' tb (some mb) (putR L p o) := by
  have f : Fr (fun g => g = mb) w w' := Fr.of_grown hg (fun k _ e => by injection e with e; exact e.symm)
  refine ⟨hb.grown hg (by simpa using hne), .inr ⟨mb, rfl, by rw [mapL_put]; exact hm⟩, fun x hx => ?_, hpl⟩
  unfold putR at hx
  rcases mem_ins.1 hx with rfl | hx
  · exact ho.fr f (fun b _ hz e => hz.2 (by rw [e]))
  · exact (hok x (List.mem_filter.1 hx).1).fr f (fun b _ hz e => hz.2 (by rw [e]))
theorem TreeAt.dropped {w w' : World} {tb mb : Nat} {L : List (List UInt8 × LV)} {p : List UInt8} (h : TreeAt w tb (some mb) L) (hm : MapAt w' Try.prog 9 mb (withoutR (mapL L) p)) (hg : w.grownBy w' (some mb)) (hpl : TreeOk (plainL (withoutR L p))) : TreeAt w' tb (some mb) (withoutR L p) := by
  have f : Fr (fun g => g = mb) w w' := Fr.of_grown hg (fun k _ e => by injection e with e; exact e.symm)
  refine ⟨h.blk.grown hg (fun e => h.ne e), .inr ⟨mb, rfl, by rw [mapL_without]; exact hm⟩, fun x hx => ?_, hpl⟩
  exact (h.ok x (List.mem_filter.1 hx).1).fr f (fun b _ hz e => hz.2 (by rw [e]))


set_option maxRecDepth 100000 in
set_option maxHeartbeats 2000000 in
theorem treeSet_any (hS : SortsT) (tb : Nat) (mo : Option Nat) (L : List (List UInt8 × LV)) (p : List UInt8) (k : Int) (A : Option Addr) (c : Nat) (l : List UInt8) (Z : Nat → Prop) (w : World) (h : TreeAt w tb mo L) (hy : By w Z A l) (hp : p.length ≤ 1048576) (hn : l.length ≤ 140737488355328) :
    Calls Try.prog 31 #[.pointer (some ⟨tb, 0, none⟩), .string ⟨⟨p⟩⟩, .agg #[.int .i64 k, .slice A l.length c]] w fun e w' => e = .returned (.int .i64 (mayS (plainL L) p (k, l))) ∧ TreeTo w tb mo (setS (plainL L) p (k, l)) w' := by
  have HPL := Lib.hid (h.plain.set p (k, l))
  obtain ⟨M, hM⟩ : ∃ M, M = mayS (plainL L) p (k, l) := ⟨_, rfl⟩
  obtain ⟨T, hTT⟩ : ∃ T, T = setS (plainL L) p (k, l) := ⟨_, rfl⟩
  rw [← hM, ← hTT]
  rw [← hTT] at HPL
  have HM := Lib.hid hM
  have HTT : Hid (T = if M = 0 then doS (plainL L) p (k, l) else plainL L) := by show _ = _; rw [hTT, hM]; rfl
  clear hTT
  have HT := Lib.hid h
  have HY := Lib.hid hy
  have hb0 : Below w.heap.size w (w.alloc (.cells #[.int .i64 k, .slice A l.length c] 28)) := (by repeat (first | exact Below.refl _ _ | refine Below.alloc ?_ (by simp) _ | refine Below.setCell ?_ (by simp) _ | refine Below.drew ?_))
  have x0 := Blk.new w 28 #[.int .i64 k, .slice A l.length c]
  have q0 : (w.alloc (.cells #[.int .i64 k, .slice A l.length c] 28)).cell? ⟨w.heap.size, 0, none⟩ = some (.int .i64 k) := x0.cell 0
  have q1 : (w.alloc (.cells #[.int .i64 k, .slice A l.length c] 28)).cell? ⟨w.heap.size, 1, none⟩ = some (.slice A l.length c) := x0.cell 1
  have hpw : goodB p = false → Hid (M = 23) := fun e => by show _ = _; rw [HM.out]; unfold mayS; rw [if_pos e]
  clear h hy hM
  go_enter Try.func31, Try.ntmps31
  go_wp2_with fail
  clear q0 q1
  refine (treemay_any hS tb mo L p k A c l _ (HT.out.below hb0) hp hn).mono ?_
  rintro e w1 ⟨rfl, hb1⟩
  rw [← HM.out]
  have hw1 := hb0.trans (hb1.mono hb0.size)
  have x1 := x0.below hb1
  clear x0 hb0 hb1
  by_cases hM0 : M = 0
  · have hMb : (M != 0) = false := by simp [hM0]
    have hk : k = 0 ∨ k = 1 ∨ k = 2 := by
      have e := HM.out
      rw [hM0] at e
      unfold mayS at e
      split at e
      · simp at e
      · split at e
        · rename_i h2; exact absurd e.symm h2
        · rename_i h2
          exact checkN_kind (by simpa using h2)
    have hg : goodB p = true := by
      rcases hgg : goodB p with _ | _
      · have := (hpw hgg).out; omega
      · rfl
    have hp96 := goodB_len hg
    have HT2 : Hid (T = doS (plainL L) p (k, l)) := by show _ = _; rw [HTT.out, if_pos hM0]
    clear HTT HM hpw hg
    have q0 : w1.cell? ⟨w.heap.size, 0, none⟩ = some (.int .i64 k) := x1.cell 0
    have h1 := HT.out.below hw1
    have c0 := h1.c0
    by_cases hk0 : k = 0
    · have HT3 : Hid (T = withoutR (plainL L) p) := by show _ = _; rw [HT2.out]; unfold doS; rw [if_pos hk0]
      clear HT2 hk
      subst hk0
      rcases h1.map with ⟨rfl, rfl⟩ | ⟨mb, rfl, hm⟩
      · have hdr := fun ty => Maps.drop_nil (w := w1) str_keyed Try.underlying56 (Go.WideMaps.keyOf_string_mk Try.underlying9 (s := ⟨⟨p⟩⟩) (by show p.length ≤ _; simp only [maxLen]; omega)) ty
        subst hM0
        clear h1
        go_wp2_with fail
        go_ret
        refine ⟨rfl, ?_⟩
        rw [HT3.out]
        exact TreeTo.of HT.out hw1
      · obtain ⟨w2, hrun, hm2, hg2, _⟩ := hm.drop Try.underlying9 Try.underlying56 p (by simp only [maxLen]; omega) 0
        have HD := Lib.hid (h1.dropped hm2 hg2 (by rw [plain_without, ← HT3.out]; exact HPL.out))
        subst hM0
        clear h1 hm hm2
        go_wp2_with fail
        go_ret
        refine ⟨rfl, ⟨some mb, withoutR L p, HD.out, by show _ = _; rw [HT3.out, plain_without], fun m e => .inl e⟩, ?_⟩
        exact (Fr.of_below hw1 _).trans (Fr.of_grown hg2 (S := fun g => some mb = some g) (fun k _ e => e)) (fun x _ e => .inr e)
    · have HT3 : Hid (T = putR (plainL L) p (k, l)) := by show _ = _; rw [HT2.out]; unfold doS; rw [if_neg hk0]
      have hk0b : (k == 0) = false := by simpa using hk0
      clear HT2 hk hk0
      subst hM0
      rcases h1.map with ⟨rfl, rfl⟩ | ⟨mb, rfl, hm⟩
      · have hmm := @run_makeMap Try.prog
        have hmn := fun W m => map_eq_nil W m
        have f0 := h1.f0
        have hsz := hw1.size
        have htl := h1.blk.lt
        have htw := HT.out.blk.lt
        have b3 : Blk ((w1.setCell ⟨tb, 0, none⟩ (.map (some w1.heap.size))).alloc (.map #[] 0)) tb 58 #[.map (some w1.heap.size)] := by simpa using (h1.blk.set_ 0 (.map (some w1.heap.size))).alloc (.map #[] 0)
        have fS : Fr (fun g => g = tb) w1 ((w1.setCell ⟨tb, 0, none⟩ (.map (some w1.heap.size))).alloc (.map #[] 0)) := ((Fr.refl (fun g => g = tb) w1).setAt tb 0 rfl _).alloc _
        have hm3 : MapAt ((w1.setCell ⟨tb, 0, none⟩ (.map (some w1.heap.size))).alloc (.map #[] 0)) Try.prog 9 w1.heap.size (mapL []) := by have := MapAt.made (w1.setCell ⟨tb, 0, none⟩ (.map (some w1.heap.size))) Try.prog 9; rwa [show (w1.setCell ⟨tb, 0, none⟩ (.map (some w1.heap.size))).heap.size = w1.heap.size by simp [World.setCell]] at this
        have hx3 := x1.fr fS (by omega)
        have HY3 := Lib.hid (show By ((w1.setCell ⟨tb, 0, none⟩ (.map (some w1.heap.size))).alloc (.map #[] 0)) (fun _ => True) A l from (((HY.out.below hw1).not_map h1.blk).fr fS (fun b _ hz e => hz e)).mono (fun _ _ _ => trivial))
        have hfr3 := (Fr.of_below hw1 (fun g => g = tb ∨ (none : Option Nat) = some g)).trans fS (fun x _ e => .inl e)
        have hne3 : w1.heap.size ≠ tb := by omega
        have hbig : w.heap.size ≤ w1.heap.size := hsz
        have hok3 : ∀ x ∈ ([] : List (List UInt8 × LV)), x.2.x.ok ((w1.setCell ⟨tb, 0, none⟩ (.map (some w1.heap.size))).alloc (.map #[] 0)) (fun b => b ≠ tb ∧ some w1.heap.size ≠ some b) := by simp
        go_wp2_with fail
        clear q0 x1 f0 fS hmm c0
        generalize (w1.setCell ⟨tb, 0, none⟩ (.map (some w1.heap.size))).alloc (.map #[] 0) = w3 at *
        generalize hmbe : w1.heap.size = mb at *
        clear hmbe
        refine wp_region_m [true, true, true, true, true, true, false] (fun W => Below w3.heap.size w3 W) (by kernel_rfl) (by kernel_rfl) ?_
        simp only [List.length_cons, List.length_nil, Nat.zero_add, Nat.reduceAdd, List.take_succ_cons, List.take_zero, List.drop_succ_cons, List.drop_zero]
        refine mx_move _ (by kernel_rfl) rfl ⟨_, (by ((try simp [go_sem]); (try rfl); done)), _, (by (simp only [Act.put, List.setIfInBounds_toArray, List.set_cons_zero, List.set_cons_succ]; rfl)), ?_⟩
        refine mx_val (by kernel_rfl) ⟨_, (by (intro w' hC; clear hC; (try go_simp); (try with_reducible rfl); done)), _, (by (simp only [Act.put, List.setIfInBounds_toArray, List.set_cons_zero, List.set_cons_succ]; rfl)), ?_⟩
        refine mx_val (by kernel_rfl) ⟨_, (by (intro w' hC; clear hC; (try go_simp); (try with_reducible rfl); done)), _, (by (simp only [Act.put, List.setIfInBounds_toArray, List.set_cons_zero, List.set_cons_succ]; rfl)), ?_⟩
        refine mx_val (by kernel_rfl) ⟨_, (by (intro w' hC; (have q := (b3.below hC).cell 0; simp at q); clear hC; (try go_simp); (try with_reducible rfl); done)), _, (by (simp only [Act.put, List.setIfInBounds_toArray, List.set_cons_zero, List.set_cons_succ]; rfl)), ?_⟩
        refine mx_move _ (by kernel_rfl) rfl ⟨_, (by ((try simp [go_sem]); (try rfl); done)), _, (by (simp only [Act.put, List.setIfInBounds_toArray, List.set_cons_zero, List.set_cons_succ]; rfl)), ?_⟩
        refine mx_val (by kernel_rfl) ⟨_, (by (intro w' hC; (have q0 := (hx3.below hC).cell 0; have q1 := (hx3.below hC).cell 1; simp at q0 q1); clear hC; (try go_simp); (try with_reducible rfl); done)), _, (by (simp only [Act.put, List.setIfInBounds_toArray, List.set_cons_zero, List.set_cons_succ]; rfl)), ?_⟩
        refine mx_call ((Below.refl _ _).drew) (by kernel_rfl) ?_ (leafClone_any k A c l _ w3.drew (HY3.out.drew) hn) ?_
        · (go_simp; done)
        rintro e w4 ⟨A4, c4, l4, rfl, hl4, ho4, hb4⟩
        have hlow4 : Below w3.heap.size w3 w4 := (Below.refl _ _).drew.trans (hb4.mono (Nat.le_refl _))
        refine ⟨_, rfl, _, (by (simp only [Act.put, List.setIfInBounds_toArray, List.set_cons_zero, List.set_cons_succ]; rfl)), ?_⟩
        refine mx_end hlow4 ?_
        have b4 := b3.below hlow4
        have hml := HPL.out.len
        rw [HT3.out, show putR (plainL ([] : List (List UInt8 × LV))) p (k, l) = plainL (putR ([] : List (List UInt8 × LV)) p ⟨k, ⟨A4, c4, l4⟩⟩) by rw [plain_put]; show _ = putR (plainL ([] : List (List UInt8 × LV))) p (k, l4); rw [hl4.out]] at HPL
        have hlen3 : (mapL ([] : List (List UInt8 × LV))).length < maxLen := by
          have h5 := (HT.out.plain).len
          simp only [mapL, plainL, List.length_map] at h5 ⊢
          simp only [maxLen]
          omega
        obtain ⟨w5, hrun5, hm5, hg5, _⟩ := (hm3.below hlow4).store Try.underlying9 Try.underlying56 p (by simp only [maxLen]; omega) (.agg #[.int .i64 k, .slice A4 l4.length c4]) hlen3
        have hlt3 := hm3.lt
        have htb3 := b3.lt
        obtain ⟨A4', c4', e4, hlc4, hcm4, hA4⟩ := ho4.form
        obtain ⟨rfl, rfl⟩ : A4 = A4' ∧ c4 = c4' := by simpa using e4
        have hoo : BV.ok w4 (fun b => b ≠ tb ∧ some mb ≠ some b) ⟨A4, c4, l4⟩ := ⟨ho4.rd.mono (fun b _ hb => by have := (hA4 b hb).1; have e1 : w3.drew.heap.size = w3.heap.size := rfl; refine ⟨by omega, fun e => ?_⟩; injection e with e; omega), hlc4, hcm4⟩
        have HD := Lib.hid (TreeAt.stored (o := ⟨k, ⟨A4, c4, l4⟩⟩) b4 hm5 hg5 hne3 (fun x hx => (hok3 x hx).below hlow4) hoo HPL.out)
        have HPP : Hid (plainL (putR ([] : List (List UInt8 × LV)) p ⟨k, ⟨A4, c4, l4⟩⟩) = T) := by show _ = _; rw [plain_put, HT3.out]; show putR (plainL ([] : List (List UInt8 × LV))) p (k, l4) = _; rw [hl4.out]
        have hfr5 := (hfr3.then_below hlow4)
        clear b4 hm5 hm3 hok3 hoo ho4 b3 hx3 HY3
        go_wp2_with fail
        go_ret
        refine ⟨rfl, ⟨some mb, _, HD.out, HPP, fun m e => by injection e with e; subst e; exact .inr hbig⟩, ?_⟩
        exact hfr5.trans (Fr.of_grown hg5 (S := fun g => some mb = some g) (fun k _ e => e)) (fun x hx e => by injection e with e; omega)
      · have b3 := h1.blk
        have hmn := fun W m => map_eq_nil W m
        have hne3 : mb ≠ tb := fun e => h1.ne (by rw [e])
        have hok3 := h1.ok
        have hm3 := hm
        have hfr3 := Fr.of_below hw1 (fun g => g = tb ∨ (some mb : Option Nat) = some g)
        have hx3 := x1
        have HY3 := Lib.hid (show By w1 (fun _ => True) A l from (HY.out.below hw1).mono (fun _ _ _ => trivial))
        go_wp2_with fail
        clear q0 x1 c0 hm
        obtain ⟨w3, rfl⟩ : ∃ x : World, x = w1 := ⟨_, rfl⟩
        refine wp_region_m [true, true, true, true, true, true, false] (fun W => Below w3.heap.size w3 W) (by kernel_rfl) (by kernel_rfl) ?_
        simp only [List.length_cons, List.length_nil, Nat.zero_add, Nat.reduceAdd, List.take_succ_cons, List.take_zero, List.drop_succ_cons, List.drop_zero]
        refine mx_move _ (by kernel_rfl) rfl ⟨_, (by ((try simp [go_sem]); (try rfl); done)), _, (by (simp only [Act.put, List.setIfInBounds_toArray, List.set_cons_zero, List.set_cons_succ]; rfl)), ?_⟩
        refine mx_val (by kernel_rfl) ⟨_, (by (intro w' hC; clear hC; (try go_simp); (try with_reducible rfl); done)), _, (by (simp only [Act.put, List.setIfInBounds_toArray, List.set_cons_zero, List.set_cons_succ]; rfl)), ?_⟩
        refine mx_val (by kernel_rfl) ⟨_, (by (intro w' hC; clear hC; (try go_simp); (try with_reducible rfl); done)), _, (by (simp only [Act.put, List.setIfInBounds_toArray, List.set_cons_zero, List.set_cons_succ]; rfl)), ?_⟩
        refine mx_val (by kernel_rfl) ⟨_, (by (intro w' hC; (have q := (b3.below hC).cell 0; simp at q); clear hC; (try go_simp); (try with_reducible rfl); done)), _, (by (simp only [Act.put, List.setIfInBounds_toArray, List.set_cons_zero, List.set_cons_succ]; rfl)), ?_⟩
        refine mx_move _ (by kernel_rfl) rfl ⟨_, (by ((try simp [go_sem]); (try rfl); done)), _, (by (simp only [Act.put, List.setIfInBounds_toArray, List.set_cons_zero, List.set_cons_succ]; rfl)), ?_⟩
        refine mx_val (by kernel_rfl) ⟨_, (by (intro w' hC; (have q0 := (hx3.below hC).cell 0; have q1 := (hx3.below hC).cell 1; simp at q0 q1); clear hC; (try go_simp); (try with_reducible rfl); done)), _, (by (simp only [Act.put, List.setIfInBounds_toArray, List.set_cons_zero, List.set_cons_succ]; rfl)), ?_⟩
        refine mx_call ((Below.refl _ _).drew) (by kernel_rfl) ?_ (leafClone_any k A c l _ w3.drew (HY3.out.drew) hn) ?_
        · (go_simp; done)
        rintro e w4 ⟨A4, c4, l4, rfl, hl4, ho4, hb4⟩
        have hlow4 : Below w3.heap.size w3 w4 := (Below.refl _ _).drew.trans (hb4.mono (Nat.le_refl _))
        refine ⟨_, rfl, _, (by (simp only [Act.put, List.setIfInBounds_toArray, List.set_cons_zero, List.set_cons_succ]; rfl)), ?_⟩
        refine mx_end hlow4 ?_
        have b4 := b3.below hlow4
        have hml := HPL.out.len
        rw [HT3.out, show putR (plainL L) p (k, l) = plainL (putR L p ⟨k, ⟨A4, c4, l4⟩⟩) by rw [plain_put]; show _ = putR (plainL L) p (k, l4); rw [hl4.out]] at HPL
        have hlen3 : (mapL L).length < maxLen := by
          have h5 := (HT.out.plain).len
          simp only [mapL, plainL, List.length_map] at h5 ⊢
          simp only [maxLen]
          omega
        obtain ⟨w5, hrun5, hm5, hg5, _⟩ := (hm3.below hlow4).store Try.underlying9 Try.underlying56 p (by simp only [maxLen]; omega) (.agg #[.int .i64 k, .slice A4 l4.length c4]) hlen3
        have hlt3 := hm3.lt
        have htb3 := b3.lt
        obtain ⟨A4', c4', e4, hlc4, hcm4, hA4⟩ := ho4.form
        obtain ⟨rfl, rfl⟩ : A4 = A4' ∧ c4 = c4' := by simpa using e4
        have hoo : BV.ok w4 (fun b => b ≠ tb ∧ some mb ≠ some b) ⟨A4, c4, l4⟩ := ⟨ho4.rd.mono (fun b _ hb => by have := (hA4 b hb).1; have e1 : w3.drew.heap.size = w3.heap.size := rfl; refine ⟨by omega, fun e => ?_⟩; injection e with e; omega), hlc4, hcm4⟩
        have HD := Lib.hid (TreeAt.stored (o := ⟨k, ⟨A4, c4, l4⟩⟩) b4 hm5 hg5 hne3 (fun x hx => (hok3 x hx).below hlow4) hoo HPL.out)
        have HPP : Hid (plainL (putR L p ⟨k, ⟨A4, c4, l4⟩⟩) = T) := by show _ = _; rw [plain_put, HT3.out]; show putR (plainL L) p (k, l4) = _; rw [hl4.out]
        have hfr5 := (hfr3.then_below hlow4)
        clear b4 hm5 hm3 hok3 hoo ho4 b3 hx3 HY3
        go_wp2_with fail
        go_ret
        refine ⟨rfl, ⟨some mb, _, HD.out, HPP, fun m e => by injection e with e; subst e; exact .inl rfl⟩, ?_⟩
        exact hfr5.trans (Fr.of_grown hg5 (S := fun g => some mb = some g) (fun k _ e => e)) (fun x hx e => by exact .inr e)
  · have hMb : (M != 0) = true := by simpa using hM0
    obtain rfl : T = plainL L := by rw [HTT.out, if_neg hM0]
    clear hM0 HM hpw
    go_wp2_with fail
    go_ret
    exact ⟨rfl, TreeTo.of HT.out hw1⟩

end Go.Proofs.Ytedbjkmgfcnkeaa

/- tenderref08: Same. -/
namespace Go.Proofs.Ytedbjkmgfcnkeaa
open Go.RowKit

theorem plain_snoc (L : List (List UInt8 × LV)) (i : Nat) (hi : i < L.length) : plainL (L.take (i + 1)) = plainL (L.take i) ++ [(L[i].1, L[i].2.p)] := by
  unfold plainL
  rw [List.take_succ_eq_append_getElem hi, List.map_append]
  rfl
theorem plain_get (L : List (List UInt8 × LV)) (i : Nat) (hi : i < L.length) : (plainL L)[i]? = some (L[i].1, L[i].2.p) := by
  unfold plainL
  rw [List.getElem?_map, List.getElem?_eq_getElem hi]
  rfl
theorem plain_len (L : List (List UInt8 × LV)) : (plainL L).length = L.length := by simp [plainL]

set_option maxRecDepth 100000 in
set_option maxHeartbeats 1000000 in
theorem refSame08_any (A B : Option Addr) (c d : Nat) (L M : List (List UInt8 × LV)) (w : World) (h : Its w A L) (h' : Its w B M) :
    Calls Try.prog 13 #[.slice A L.length c, .slice B M.length d] w fun e w' => e = .returned (.bool (decide (plainL L = plainL M))) ∧ Below w.heap.size w w' := by
  obtain ⟨R, hR⟩ : ∃ R, R = decide (plainL L = plainL M) := ⟨_, rfl⟩
  rw [← hR]
  have HR := Lib.hid hR
  have HL := Lib.hid h
  have HM := Lib.hid h'
  have hlen := h.len
  clear h h' hR
  by_cases hn : L.length = M.length
  · have HN := Lib.hid hn
    have hlm := HM.out.len
    go_enter Try.func13, Try.ntmps13
    go_wp2_with fail
    go_loopw [5] (fun iv wr => ∃ i : Nat, i ≤ L.length ∧ iv = .int .i64 (i : Int) ∧ Hid (plainL (L.take i) = plainL (M.take i)) ∧ Below w.heap.size w wr) (fun iv _ => L.length - (intOf iv).toNat)
    case atStart => exact ⟨0, Nat.zero_le _, rfl, rfl, Below.refl _ _⟩
    case round =>
      obtain ⟨i, hi, rfl, hz, hb⟩ := hrel
      by_cases hlt : i < L.length
      · have hltm : i < M.length := by omega
        obtain ⟨b, off, hA, hb1, c0, c1, c2⟩ := (HL.out.below hb).at_ hlt
        obtain ⟨b2, off2, hB, hb2, d0, d1, d2⟩ := (HM.out.below hb).at_ hltm
        subst hA
        subst hB
        have hx2 := Lib.hid ((HL.out.below hb).ok _ (List.getElem_mem hlt))
        have hy2 := Lib.hid ((HM.out.below hb).ok _ (List.getElem_mem hltm))
        have hs1 := Lib.hid (plain_snoc L i hlt)
        have hs2 := Lib.hid (plain_snoc M i hltm)
        have hg1 := Lib.hid (plain_get L i hlt)
        have hg2 := Lib.hid (plain_get M i hltm)
        generalize L[i] = x at *
        generalize M[i] = y at *
        simp only [stv] at c0 d0
        have hq := Lib.hid hb
        by_cases hxy : x.1 = y.1
        · rw [hxy] at c0
          go_wp2_with fail
          refine wp_region_m [true, true, true, true, true, true, true, true, true, true, true, true, true, true, true, true, true, true, true, true, true, true, false, true, true] (fun W => Below wr.heap.size wr W) (by kernel_rfl) (by kernel_rfl) ?_
          simp only [List.length_cons, List.length_nil, Nat.zero_add, Nat.reduceAdd, List.take_succ_cons, List.take_zero, List.drop_succ_cons, List.drop_zero]
          refine mx_move _ (by kernel_rfl) rfl ⟨_, (by ((try simp [go_sem]); (try rfl); done)), _, (by (simp only [Act.put, List.setIfInBounds_toArray, List.set_cons_zero, List.set_cons_succ]; rfl)), ?_⟩
          refine mx_move _ (by kernel_rfl) rfl ⟨_, (by ((try simp [go_sem]); (try rfl); done)), _, (by (simp only [Act.put, List.setIfInBounds_toArray, List.set_cons_zero, List.set_cons_succ]; rfl)), ?_⟩
          refine mx_val (by kernel_rfl) ⟨_, (by (intro w' hC; clear hC; (try go_simp); (try with_reducible rfl); done)), _, (by (simp only [Act.put, List.setIfInBounds_toArray, List.set_cons_zero, List.set_cons_succ]; rfl)), ?_⟩
          refine mx_val (by kernel_rfl) ⟨_, (by (intro w' hC; clear hC; (try go_simp); (try with_reducible rfl); done)), _, (by (simp only [Act.put, List.setIfInBounds_toArray, List.set_cons_zero, List.set_cons_succ]; rfl)), ?_⟩
          refine mx_val (by kernel_rfl) ⟨_, (by (intro w' hC; (have q := cellAt hC hb1 c0); clear hC; (try go_simp); (try with_reducible rfl); done)), _, (by (simp only [Act.put, List.setIfInBounds_toArray, List.set_cons_zero, List.set_cons_succ]; rfl)), ?_⟩
          refine mx_move _ (by kernel_rfl) rfl ⟨_, (by ((try simp [go_sem]); (try rfl); done)), _, (by (simp only [Act.put, List.setIfInBounds_toArray, List.set_cons_zero, List.set_cons_succ]; rfl)), ?_⟩
          refine mx_move _ (by kernel_rfl) rfl ⟨_, (by ((try simp [go_sem]); (try rfl); done)), _, (by (simp only [Act.put, List.setIfInBounds_toArray, List.set_cons_zero, List.set_cons_succ]; rfl)), ?_⟩
          refine mx_val (by kernel_rfl) ⟨_, (by (intro w' hC; clear hC; (try go_simp); (try with_reducible rfl); done)), _, (by (simp only [Act.put, List.setIfInBounds_toArray, List.set_cons_zero, List.set_cons_succ]; rfl)), ?_⟩
          refine mx_val (by kernel_rfl) ⟨_, (by (intro w' hC; clear hC; (try go_simp); (try with_reducible rfl); done)), _, (by (simp only [Act.put, List.setIfInBounds_toArray, List.set_cons_zero, List.set_cons_succ]; rfl)), ?_⟩
          refine mx_val (by kernel_rfl) ⟨_, (by (intro w' hC; (have q := cellAt hC hb2 d0); clear hC; (try go_simp); (try with_reducible rfl); done)), _, (by (simp only [Act.put, List.setIfInBounds_toArray, List.set_cons_zero, List.set_cons_succ]; rfl)), ?_⟩
          refine mx_val (by kernel_rfl) ⟨_, (by (intro w' hC; clear hC; (try go_simp); (try with_reducible rfl); done)), _, (by (simp only [Act.put, List.setIfInBounds_toArray, List.set_cons_zero, List.set_cons_succ]; rfl)), ?_⟩
          refine mx_move _ (by kernel_rfl) rfl ⟨_, (by ((try simp [go_sem]); (try rfl); done)), _, (by (simp only [Act.put, List.setIfInBounds_toArray, List.set_cons_zero, List.set_cons_succ]; rfl)), ?_⟩
          refine mx_move _ (by kernel_rfl) rfl ⟨_, (by ((try simp [go_sem]); (try rfl); done)), _, (by (simp only [Act.put, List.setIfInBounds_toArray, List.set_cons_zero, List.set_cons_succ]; rfl)), ?_⟩
          refine mx_move _ (by kernel_rfl) rfl ⟨_, (by ((try simp [go_sem]); (try rfl); done)), _, (by (simp only [Act.put, List.setIfInBounds_toArray, List.set_cons_zero, List.set_cons_succ]; rfl)), ?_⟩
          refine mx_val (by kernel_rfl) ⟨_, (by (intro w' hC; clear hC; (try go_simp); (try with_reducible rfl); done)), _, (by (simp only [Act.put, List.setIfInBounds_toArray, List.set_cons_zero, List.set_cons_succ]; rfl)), ?_⟩
          refine mx_val (by kernel_rfl) ⟨_, (by (intro w' hC; clear hC; (try go_simp); (try with_reducible rfl); done)), _, (by (simp only [Act.put, List.setIfInBounds_toArray, List.set_cons_zero, List.set_cons_succ]; rfl)), ?_⟩
          refine mx_val (by kernel_rfl) ⟨_, (by (intro w' hC; (have q0 := cellAt hC hb1 c1; have q1 := cellAt hC hb1 c2; rw [show off + i * 3 + 2 = off + i * 3 + 1 + 1 from rfl] at q1); clear hC; (try go_simp); (try with_reducible rfl); done)), _, (by (simp only [Act.put, List.setIfInBounds_toArray, List.set_cons_zero, List.set_cons_succ]; rfl)), ?_⟩
          refine mx_move _ (by kernel_rfl) rfl ⟨_, (by ((try simp [go_sem]); (try rfl); done)), _, (by (simp only [Act.put, List.setIfInBounds_toArray, List.set_cons_zero, List.set_cons_succ]; rfl)), ?_⟩
          refine mx_move _ (by kernel_rfl) rfl ⟨_, (by ((try simp [go_sem]); (try rfl); done)), _, (by (simp only [Act.put, List.setIfInBounds_toArray, List.set_cons_zero, List.set_cons_succ]; rfl)), ?_⟩
          refine mx_val (by kernel_rfl) ⟨_, (by (intro w' hC; clear hC; (try go_simp); (try with_reducible rfl); done)), _, (by (simp only [Act.put, List.setIfInBounds_toArray, List.set_cons_zero, List.set_cons_succ]; rfl)), ?_⟩
          refine mx_val (by kernel_rfl) ⟨_, (by (intro w' hC; clear hC; (try go_simp); (try with_reducible rfl); done)), _, (by (simp only [Act.put, List.setIfInBounds_toArray, List.set_cons_zero, List.set_cons_succ]; rfl)), ?_⟩
          refine mx_val (by kernel_rfl) ⟨_, (by (intro w' hC; (have q0 := cellAt hC hb2 d1; have q1 := cellAt hC hb2 d2; rw [show off2 + i * 3 + 2 = off2 + i * 3 + 1 + 1 from rfl] at q1); clear hC; (try go_simp); (try with_reducible rfl); done)), _, (by (simp only [Act.put, List.setIfInBounds_toArray, List.set_cons_zero, List.set_cons_succ]; rfl)), ?_⟩
          refine mx_call ((Below.refl _ _).drew) (by kernel_rfl) ?_ (leafSameR_any x.2.k y.2.k x.2.x.A y.2.x.A x.2.x.c y.2.x.c x.2.x.l y.2.x.l _ _ wr.drew hx2.out.1.drew hy2.out.1.drew) ?_
          · (go_simp; done)
          rintro e w2 ⟨rfl, hb3⟩
          generalize hsm : (x.2.k == y.2.k && x.2.x.l == y.2.x.l) = sm
          have hlow : Below wr.heap.size wr w2 := (Below.refl _ _).drew.trans (hb3.mono (Nat.le_refl _))
          refine ⟨_, rfl, _, (by (simp only [Act.put, List.setIfInBounds_toArray, List.set_cons_zero, List.set_cons_succ]; rfl)), ?_⟩
          refine mx_val (by kernel_rfl) ⟨_, (by (intro w' hC; clear hC; (try go_simp); (try with_reducible rfl); done)), _, (by (simp only [Act.put, List.setIfInBounds_toArray, List.set_cons_zero, List.set_cons_succ]; rfl)), ?_⟩
          refine mx_val (by kernel_rfl) ⟨_, (by (intro w' hC; clear hC; (try go_simp); (try with_reducible rfl); done)), _, (by (simp only [Act.put, List.setIfInBounds_toArray, List.set_cons_zero, List.set_cons_succ]; rfl)), ?_⟩
          refine mx_end hlow ?_
          have hw2 := hb.trans (hlow.mono hb.size)
          cases sm
          · obtain rfl : R = false := by
              rw [HR.out, decide_eq_false_iff_not]
              intro e
              have e2 := hg1.out
              rw [e, hg2.out] at e2
              injection e2 with e2
              injection e2 with _ e2
              rw [show x.2.k = y.2.k from (congrArg Prod.fst e2).symm, show x.2.x.l = y.2.x.l from (congrArg Prod.snd e2).symm] at hsm
              simp at hsm
            clear c0 c1 c2 d0 d1 d2
            go_wp2_with fail
            go_ret
            exact ⟨rfl, hw2⟩
          · have HN2 : Hid (plainL (L.take (i + 1)) = plainL (M.take (i + 1))) := by
              show _ = _
              simp only [Bool.and_eq_true, beq_iff_eq] at hsm
              rw [hs1.out, hs2.out, hz.out, hxy]
              unfold LV.p
              rw [hsm.1, hsm.2]
            clear c0 c1 c2 d0 d1 d2
            go_wp2_with fail
            go_roundw
            case rel => exact ⟨i + 1, hlt, by go_num, HN2, hw2⟩
            case measure => simp [intOf]; omega
        · have hne : (x.1 != y.1) = true := by simpa using hxy
          have hne1 : (x.1 == y.1) = false := by simpa using hxy
          obtain rfl : R = false := by
            rw [HR.out, decide_eq_false_iff_not]
            intro e
            have e2 := hg1.out
            rw [e, hg2.out] at e2
            injection e2 with e2
            injection e2 with e2 _
            exact hxy e2.symm
          go_wp2_with fail
          refine wp_region_m [true, true, true, true, true, true, true, true, true, true, true, true, true, true, true, true, true, true, true, true, true, true, false, true, true] (fun W => Below wr.heap.size wr W) (by kernel_rfl) (by kernel_rfl) ?_
          simp only [List.length_cons, List.length_nil, Nat.zero_add, Nat.reduceAdd, List.take_succ_cons, List.take_zero, List.drop_succ_cons, List.drop_zero]
          refine mx_move _ (by kernel_rfl) rfl ⟨_, (by ((try simp [go_sem]); (try rfl); done)), _, (by (simp only [Act.put, List.setIfInBounds_toArray, List.set_cons_zero, List.set_cons_succ]; rfl)), ?_⟩
          refine mx_move _ (by kernel_rfl) rfl ⟨_, (by ((try simp [go_sem]); (try rfl); done)), _, (by (simp only [Act.put, List.setIfInBounds_toArray, List.set_cons_zero, List.set_cons_succ]; rfl)), ?_⟩
          refine mx_val (by kernel_rfl) ⟨_, (by (intro w' hC; clear hC; (try go_simp); (try with_reducible rfl); done)), _, (by (simp only [Act.put, List.setIfInBounds_toArray, List.set_cons_zero, List.set_cons_succ]; rfl)), ?_⟩
          refine mx_val (by kernel_rfl) ⟨_, (by (intro w' hC; clear hC; (try go_simp); (try with_reducible rfl); done)), _, (by (simp only [Act.put, List.setIfInBounds_toArray, List.set_cons_zero, List.set_cons_succ]; rfl)), ?_⟩
          refine mx_val (by kernel_rfl) ⟨_, (by (intro w' hC; (have q := cellAt hC hb1 c0); clear hC; (try go_simp); (try with_reducible rfl); done)), _, (by (simp only [Act.put, List.setIfInBounds_toArray, List.set_cons_zero, List.set_cons_succ]; rfl)), ?_⟩
          refine mx_move _ (by kernel_rfl) rfl ⟨_, (by ((try simp [go_sem]); (try rfl); done)), _, (by (simp only [Act.put, List.setIfInBounds_toArray, List.set_cons_zero, List.set_cons_succ]; rfl)), ?_⟩
          refine mx_move _ (by kernel_rfl) rfl ⟨_, (by ((try simp [go_sem]); (try rfl); done)), _, (by (simp only [Act.put, List.setIfInBounds_toArray, List.set_cons_zero, List.set_cons_succ]; rfl)), ?_⟩
          refine mx_val (by kernel_rfl) ⟨_, (by (intro w' hC; clear hC; (try go_simp); (try with_reducible rfl); done)), _, (by (simp only [Act.put, List.setIfInBounds_toArray, List.set_cons_zero, List.set_cons_succ]; rfl)), ?_⟩
          refine mx_val (by kernel_rfl) ⟨_, (by (intro w' hC; clear hC; (try go_simp); (try with_reducible rfl); done)), _, (by (simp only [Act.put, List.setIfInBounds_toArray, List.set_cons_zero, List.set_cons_succ]; rfl)), ?_⟩
          refine mx_val (by kernel_rfl) ⟨_, (by (intro w' hC; (have q := cellAt hC hb2 d0); clear hC; (try go_simp); (try with_reducible rfl); done)), _, (by (simp only [Act.put, List.setIfInBounds_toArray, List.set_cons_zero, List.set_cons_succ]; rfl)), ?_⟩
          refine mx_val (by kernel_rfl) ⟨_, (by (intro w' hC; (have q := hne); clear hC; (try go_simp); (try with_reducible rfl); done)), _, (by (simp only [Act.put, List.setIfInBounds_toArray, List.set_cons_zero, List.set_cons_succ]; rfl)), ?_⟩
          refine mx_move _ (by kernel_rfl) rfl ⟨_, (by ((try simp [go_sem]); (try rfl); done)), _, (by (simp only [Act.put, List.setIfInBounds_toArray, List.set_cons_zero, List.set_cons_succ]; rfl)), ?_⟩
          first | (refine mx_skip (by rfl) ⟨_, (by (simp only [Act.put, List.setIfInBounds_toArray, List.set_cons_zero, List.set_cons_succ]; rfl)), ?_⟩) | (refine mx_move _ (by kernel_rfl) rfl ⟨_, (by ((try simp [go_sem]); (try rfl); done)), _, (by (simp only [Act.put, List.setIfInBounds_toArray, List.set_cons_zero, List.set_cons_succ]; rfl)), ?_⟩)
          first | (refine mx_skip (by rfl) ⟨_, (by (simp only [Act.put, List.setIfInBounds_toArray, List.set_cons_zero, List.set_cons_succ]; rfl)), ?_⟩) | (refine mx_move _ (by kernel_rfl) rfl ⟨_, (by ((try simp [go_sem]); (try rfl); done)), _, (by (simp only [Act.put, List.setIfInBounds_toArray, List.set_cons_zero, List.set_cons_succ]; rfl)), ?_⟩)
          first | (refine mx_skip (by rfl) ⟨_, (by (simp only [Act.put, List.setIfInBounds_toArray, List.set_cons_zero, List.set_cons_succ]; rfl)), ?_⟩) | (refine mx_val (by kernel_rfl) ⟨_, (by (intro w' hC; clear hC; (try go_simp); (try with_reducible rfl); done)), _, (by (simp only [Act.put, List.setIfInBounds_toArray, List.set_cons_zero, List.set_cons_succ]; rfl)), ?_⟩)
          first | (refine mx_skip (by rfl) ⟨_, (by (simp only [Act.put, List.setIfInBounds_toArray, List.set_cons_zero, List.set_cons_succ]; rfl)), ?_⟩) | (refine mx_val (by kernel_rfl) ⟨_, (by (intro w' hC; clear hC; (try go_simp); (try with_reducible rfl); done)), _, (by (simp only [Act.put, List.setIfInBounds_toArray, List.set_cons_zero, List.set_cons_succ]; rfl)), ?_⟩)
          first | (refine mx_skip (by rfl) ⟨_, (by (simp only [Act.put, List.setIfInBounds_toArray, List.set_cons_zero, List.set_cons_succ]; rfl)), ?_⟩) | (refine mx_val (by kernel_rfl) ⟨_, (by (intro w' hC; skip; clear hC; (try go_simp); (try with_reducible rfl); done)), _, (by (simp only [Act.put, List.setIfInBounds_toArray, List.set_cons_zero, List.set_cons_succ]; rfl)), ?_⟩)
          first | (refine mx_skip (by rfl) ⟨_, (by (simp only [Act.put, List.setIfInBounds_toArray, List.set_cons_zero, List.set_cons_succ]; rfl)), ?_⟩) | (refine mx_move _ (by kernel_rfl) rfl ⟨_, (by ((try simp [go_sem]); (try rfl); done)), _, (by (simp only [Act.put, List.setIfInBounds_toArray, List.set_cons_zero, List.set_cons_succ]; rfl)), ?_⟩)
          first | (refine mx_skip (by rfl) ⟨_, (by (simp only [Act.put, List.setIfInBounds_toArray, List.set_cons_zero, List.set_cons_succ]; rfl)), ?_⟩) | (refine mx_move _ (by kernel_rfl) rfl ⟨_, (by ((try simp [go_sem]); (try rfl); done)), _, (by (simp only [Act.put, List.setIfInBounds_toArray, List.set_cons_zero, List.set_cons_succ]; rfl)), ?_⟩)
          first | (refine mx_skip (by rfl) ⟨_, (by (simp only [Act.put, List.setIfInBounds_toArray, List.set_cons_zero, List.set_cons_succ]; rfl)), ?_⟩) | (refine mx_val (by kernel_rfl) ⟨_, (by (intro w' hC; clear hC; (try go_simp); (try with_reducible rfl); done)), _, (by (simp only [Act.put, List.setIfInBounds_toArray, List.set_cons_zero, List.set_cons_succ]; rfl)), ?_⟩)
          first | (refine mx_skip (by rfl) ⟨_, (by (simp only [Act.put, List.setIfInBounds_toArray, List.set_cons_zero, List.set_cons_succ]; rfl)), ?_⟩) | (refine mx_val (by kernel_rfl) ⟨_, (by (intro w' hC; clear hC; (try go_simp); (try with_reducible rfl); done)), _, (by (simp only [Act.put, List.setIfInBounds_toArray, List.set_cons_zero, List.set_cons_succ]; rfl)), ?_⟩)
          first | (refine mx_skip (by rfl) ⟨_, (by (simp only [Act.put, List.setIfInBounds_toArray, List.set_cons_zero, List.set_cons_succ]; rfl)), ?_⟩) | (refine mx_val (by kernel_rfl) ⟨_, (by (intro w' hC; skip; clear hC; (try go_simp); (try with_reducible rfl); done)), _, (by (simp only [Act.put, List.setIfInBounds_toArray, List.set_cons_zero, List.set_cons_succ]; rfl)), ?_⟩)
          first | (refine mx_idle ((Below.refl _ _).drew) (by rfl) ⟨_, (by (simp only [Act.put, List.setIfInBounds_toArray, List.set_cons_zero, List.set_cons_succ]; rfl)), ?_⟩) | (refine mx_alone ((Below.refl _ _).drew) (by kernel_rfl) ⟨_, _, (by (go_simp; first | done | exact ⟨rfl, rfl⟩)), _, (by (simp only [Act.put, List.setIfInBounds_toArray, List.set_cons_zero, List.set_cons_succ]; rfl)), ?_⟩)
          first | (refine mx_skip (by rfl) ⟨_, (by (simp only [Act.put, List.setIfInBounds_toArray, List.set_cons_zero, List.set_cons_succ]; rfl)), ?_⟩) | (refine mx_val (by kernel_rfl) ⟨_, (by (intro w' hC; clear hC; (try go_simp); (try with_reducible rfl); done)), _, (by (simp only [Act.put, List.setIfInBounds_toArray, List.set_cons_zero, List.set_cons_succ]; rfl)), ?_⟩)
          refine mx_val (by kernel_rfl) ⟨_, (by (intro w' hC; clear hC; (try go_simp); (try with_reducible rfl); done)), _, (by (simp only [Act.put, List.setIfInBounds_toArray, List.set_cons_zero, List.set_cons_succ]; rfl)), ?_⟩
          refine mx_end (Below.refl _ _).drew ?_
          clear c0 c1 c2 d0 d1 d2
          go_wp2_with fail
          go_ret
          exact ⟨rfl, hb.drew⟩
      · have e : i = L.length := by omega
        subst e
        obtain rfl : R = true := by
          rw [HR.out, decide_eq_true_eq]
          have := hz.out
          rw [List.take_length, HN.out, List.take_length] at this
          exact this
        clear hz
        go_wp2_with fail
        go_ret
        exact ⟨rfl, hb⟩
  · obtain rfl : R = false := by
      rw [HR.out, decide_eq_false_iff_not]
      intro e
      have := congrArg List.length e
      rw [plain_len, plain_len] at this
      exact hn this
    have hne : ((L.length : Int) != (M.length : Int)) = true := by simp; omega
    have hlm := HM.out.len
    go_enter Try.func13, Try.ntmps13
    go_wp2_with fail
    go_ret
    exact ⟨rfl, Below.refl _ _⟩
end Go.Proofs.Ytedbjkmgfcnkeaa

/- A region in the text's order whose operations each yield ONE value and at most make memory (ClassF's steps without a drawn order). No program. -/
namespace Go.Proofs.Ytedbjkmgfcnkeaa
open Go.RowKit

section
variable {P : Program} {ops : Array Oper} {W : World} {Q : Exit → Act → World → Prop} {Lq : Act → Prop}
theorem wpList_walk : ∀ (l : List Oper) (a : Act) (w : World), WalkB P ops W Lq l a → Below W.heap.size W w → (∀ a' w', Lq a' → Below W.heap.size W w' → Q .normal a' w') → wpList P ops Q l a w
  | [], a, w, h, hw, hQ => by
    cases h with
    | nil h => exact hQ _ _ h hw
  | o :: l, a, w, h, hw, hQ => by
    cases h with
    | cons hy hd =>
      rcases hy with ⟨hwt, hv⟩ | ⟨hwt, rfl⟩
      · simp only [wpList, hwt, if_true]
        refine .inl ?_
        unfold Oper.wp
        rcases hv w hw with e | ⟨f, args, e, hc⟩
        · rw [e]
          exact wpList_walk l _ w hd hw hQ
        · rw [e]
          exact hc.mono fun e w' ⟨he, hb⟩ => by
            subst he
            exact wpList_walk l _ w' hd (hw.trans (hb.mono hw.size)) hQ
      · exact wpList_skip hwt (wpList_walk l _ w hd hw hQ)
theorem wpList_seq {l : List Oper} {a : Act} {w : World} (h : WalkB P ops w (fun a' => ∀ w', Below w.heap.size w w' → Q .normal a' w') l a) : wpList P ops Q l a w :=
  wpList_walk l a w h (Below.refl _ _) (fun _ _ h hb => h _ hb)
end
end Go.Proofs.Ytedbjkmgfcnkeaa
