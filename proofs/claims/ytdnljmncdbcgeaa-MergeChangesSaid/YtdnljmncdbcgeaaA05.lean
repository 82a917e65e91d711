/- name.Compare. -/
import Derived.Test.YtdnljmncdbcgeaaA04
import Derived.Maps.OwnSet
import Derived.Deep.Quiet
import Derived.StillTail
import Derived.BigQuiet

namespace Go.Proofs.Ytdnljmncdbcgeaa
open Go.RowKit

theorem less_cmp : ∀ a b : List UInt8, Op.bytesLess a b = decide (cmpB a b < 0)
  | [], [] => by simp [Op.bytesLess, cmpB, cmpL]
  | _ :: _, [] => by simp [Op.bytesLess, cmpB, cmpL]
  | [], _ :: _ => by simp [Op.bytesLess, cmpB, cmpL]
  | x :: a, y :: b => by
    have ih := less_cmp a b
    unfold cmpB at ih ⊢
    rw [Op.bytesLess, ih, cmpL]
    unfold cmp1
    rw [Bool.eq_iff_iff]
    by_cases h1 : x.toNat < y.toNat
    · simp [h1, UInt8.lt_iff_toNat_lt]
    · by_cases h2 : y.toNat < x.toNat
      · have : ¬ x = y := by rintro rfl; omega
        simp [h1, h2, UInt8.lt_iff_toNat_lt, this]
      · have : x = y := UInt8.toNat_inj.1 (by omega)
        subst this
        simp
theorem nan_str (s : ByteArray) (w : World) : Calls Try.prog 148 #[.string s] w fun e w' => e = .returned (.bool false) ∧ w = w' := by
  go_enter Try.func148, Try.ntmps148
  go_wp2_with fail
  go_ret
  exact ⟨rfl, rfl⟩
theorem cmpStr_any (s t : ByteArray) (w : World) : Calls Try.prog 112 #[.string s, .string t] w fun e w' => e = .returned (.int .i64 (cmpB (tl s) (tl t))) ∧ w = w' := by
  obtain ⟨a, ha⟩ : ∃ a, s.data.toList = a := ⟨_, rfl⟩
  obtain ⟨b, hb⟩ : ∃ b, t.data.toList = b := ⟨_, rfl⟩
  have hr := ordB.rng a b
  have HL := Lib.hid (less_cmp a b)
  have HQ := Lib.hid (ordB.eq a b)
  have EA := Lib.hid (show s.toList = a by rw [ByteArray.toList_eq, ha])
  have EB := Lib.hid (show t.toList = b by rw [ByteArray.toList_eq, hb])
  rw [show tl s = a from ha, show tl t = b from hb]
  clear ha hb
  go_enter Try.func112, Try.ntmps112
  go_wp2_with (first | (go_at_call 148; refine (nan_str _ _).mono ?_; rintro e w1 ⟨rfl, rfl⟩))
  all_goals
    go_ret
    refine ⟨ret_i ?_, rfl⟩
    simp only [EA.out, EB.out] at *
  · have h1 : Op.bytesLess a b = true := by assumption
    rw [HL.out] at h1
    simp at h1
    omega
  · have h1 : Op.bytesLess a b = false := by assumption
    have h2 : (!a == b) = true := by assumption
    rw [HL.out] at h1
    simp at h1 h2
    have := mt HQ.out.1 h2
    omega
  · have h2 : (!a == b) = false := by assumption
    simp at h2
    exact (HQ.out.2 h2).symm
theorem at_any (x : Bool) (w : World) : Calls Try.prog 113 #[.bool x] w fun e w' => e = .returned (.int .i64 (if x then 1 else 0)) ∧ w = w' := by
  cases x
  · go_enter Try.func113, Try.ntmps113
    go_wp2_with fail
    go_ret
    exact ⟨rfl, rfl⟩
  · go_enter Try.func113, Try.ntmps113
    go_wp2_with fail
    go_ret
    exact ⟨rfl, rfl⟩
/-- one part and whether there is more -/
structure CutTo (s x r : ByteArray) (m : Bool) : Prop where
  call : ∀ w, Calls Try.prog 111 #[.string s, .string ⟨#[47]⟩] w fun e w' => e = .returned (.tuple #[.string x, .string r, .bool m]) ∧ Qt w w'
  eq : cutL (tl s) = tl x :: (if m then cutL (tl r) else [])
  size : if m then r.size < s.size else True
  le : x.size ≤ s.size
theorem cut_to (s : ByteArray) (hs : s.size ≤ 9223372036854775807) : ∃ x r m, CutTo s x r m := by
  rcases cut_ways s with ⟨hi, hx⟩ | ⟨i, hi, hit, hx⟩
  · exact ⟨s, ⟨#[]⟩, false, fun w => strCut_none s w hi, by simpa using hx, by simp, Nat.le_refl _⟩
  · exact ⟨_, _, true, fun w => strCut_at s i w hi hit hs, by simpa using hx, by simp; omega, by simp; omega⟩
def strOf : Value → Nat | .string s => s.size | _ => 0
set_option maxHeartbeats 1000000 in
theorem compare_any (a b : ByteArray) (ha : a.size ≤ 9223372036854775807) (hb : b.size ≤ 9223372036854775807) (w : World) : Calls Try.prog 60 #[.string a, .string b] w fun e w' => e = .returned (.int .i64 (cmpT (tl a) (tl b))) ∧ Qt w w' := by
  go_enter Try.func60, Try.ntmps60
  go_wp2_with fail
  go_loopw [0, 1] (fun av bv wr => ∃ x y : ByteArray, av = .string x ∧ bv = .string y ∧ x.size ≤ a.size ∧ y.size ≤ b.size ∧ Hid (cmpT (tl x) (tl y) = cmpT (tl a) (tl b)) ∧ Qt w wr) (fun av _ _ => strOf av)
  case atStart => exact ⟨a, b, rfl, rfl, Nat.le_refl _, Nat.le_refl _, rfl, Qt.refl _⟩
  case round =>
    obtain ⟨x, y, rfl, rfl, hxa, hyb, hC, hq⟩ := hrel
    obtain ⟨x1, xr, xm, kx⟩ := cut_to x (by omega)
    obtain ⟨y1, yr, ym, ky⟩ := cut_to y (by omega)
    have ex := kx.eq
    have ey := ky.eq
    have sx := kx.size
    have sy := ky.size
    have hR : cmpT (tl x) (tl y) = if cmpB (tl x1) (tl y1) = 0 then cmpP (if xm then cutL (tl xr) else []) (if ym then cutL (tl yr) else []) else cmpB (tl x1) (tl y1) := by
      unfold cmpT
      rw [ex, ey]
      rfl
    have HR := Lib.hid (hC.out.symm.trans hR)
    clear hR ex ey hC
    by_cases h1 : x1 = y1
    · subst h1
      rw [if_pos (cmpB_self _)] at HR
      have hy1 := neq_yes (rfl : x1 = x1)
      have HF : ∀ m : Bool, Hid ((if m = true then (1 : Int) else 0) = if m then 1 else 0) := fun _ => rfl
      by_cases hm : xm = true ∧ ym = true
      · obtain ⟨rfl, rfl⟩ := hm
        rw [if_pos rfl] at sx sy
        go_wp2_with fail
        refine (kx.call _).mono ?_
        rintro e w1 ⟨rfl, n1, rfl⟩
        go_wp2_with fail
        refine (ky.call _).mono ?_
        rintro e w1 ⟨rfl, n2, rfl⟩
        go_wp2_with fail
        go_roundw
        case rel => exact ⟨xr, yr, rfl, rfl, by omega, by omega, HR.out.symm, hq.trans ⟨n1 + n2, rfl⟩⟩
        case measure => simp [strOf]; exact sx
      · have HS : Hid (cmpP (if xm = true then cutL (tl xr) else []) (if ym = true then cutL (tl yr) else []) = (if xm = true then 1 else 0) - (if ym = true then 1 else 0)) := by
          show _ = _
          cases xm <;> cases ym
          · rfl
          · obtain ⟨z, zs, e⟩ := List.exists_cons_of_ne_nil (cutL_ne (tl yr))
            simp [cmpP, cmpL, e]
          · obtain ⟨z, zs, e⟩ := List.exists_cons_of_ne_nil (cutL_ne (tl xr))
            simp [cmpP, cmpL, e]
          · simp at hm
        have HR2 := Lib.hid (HR.out.trans HS.out)
        clear HR HS sx sy
        cases xm <;> cases ym
        case true.true => simp at hm
        all_goals
          clear hm
          go_wp2_with fail
          refine (kx.call _).mono ?_
          rintro e w1 ⟨rfl, n1, rfl⟩
          go_wp2_with fail
          refine (ky.call _).mono ?_
          rintro e w1 ⟨rfl, n2, rfl⟩
          go_wp2_with (go_at_call 113; refine (at_any _ _).mono ?_; rintro e w1 ⟨rfl, rfl⟩)
          go_ret
          exact ⟨ret_i (by rw [HR2.out]; rfl), hq.trans ⟨n1 + n2, rfl⟩⟩
    · have hne : cmpB (tl x1) (tl y1) ≠ 0 := fun e => h1 (tl_inj ((ordB.eq _ _).1 e))
      rw [if_neg hne] at HR
      have hn := neq_no h1
      clear hne sx sy
      go_wp2_with fail
      refine (kx.call _).mono ?_
      rintro e w1 ⟨rfl, n1, rfl⟩
      go_wp2_with fail
      refine (ky.call _).mono ?_
      rintro e w1 ⟨rfl, n2, rfl⟩
      go_wp2_with fail
      refine (cmpStr_any _ _ _).mono ?_
      rintro e w1 ⟨rfl, rfl⟩
      go_wp2_with fail
      go_ret
      exact ⟨ret_i HR.out.symm, hq.trans ⟨n1 + n2, rfl⟩⟩

end Go.Proofs.Ytdnljmncdbcgeaa

/- What slices.SortFunc of texts by name.Compare does, as a premise. -/
namespace Go.Proofs.Ytdnljmncdbcgeaa
open Go.RowKit Go.Maps

/-- texts sorted by name.Compare -/
def SortsT : Prop := ∀ (base : Nat) (A : Option Addr) (c : Nat) (ss : List (List UInt8)) (w : World), w.ownsRow base 9 1 (.slice A ss.length c) ss.length (ss.map stv) → (∀ x ∈ ss, x.length ≤ 140737488355328) → ss.length ≤ 1099511627776 →
  Calls Try.prog 72 #[.slice A ss.length c, .func (.func 60) #[] #[]] w fun e w' => e = .returned (.tuple #[]) ∧ w'.ownsRow base 9 1 (.slice A ss.length c) ss.length ((ss.mergeSort leT).map stv) ∧ w.grownBy w' (ablk A)
theorem below_grown {w w' : World} (h : Below w.heap.size w w') : w.grownBy w' none := ⟨h.os, h.tape, h.output, h.size, fun k hk _ => h.block k hk⟩
theorem grown_below {B : Nat} {w w' : World} {row : Option Nat} (h : w.grownBy w' row) (hB : B ≤ w.heap.size) (hr : ∀ g, row = some g → B ≤ g) : Below B w w' := ⟨h.os, h.tape, h.output, h.size, fun k hk => h.block k (by omega) (fun e => by have := hr k e.symm; omega)⟩
end Go.Proofs.Ytdnljmncdbcgeaa

/- Drawn regions whose operations each yield ONE value and at most make memory: one walk in the order of the text, in worlds above the one at hand; the variable that is made behind them may be made at any time. No program. -/
namespace Go.Proofs.Ytdnljmncdbcgeaa
open Go.RowKit

section
variable {P : Program} {ops : Array Oper} {md : Region.Mode} {W : World}

/-- In state a, in every world above W, the operation yields v, and makes memory at most. -/
def YB (P : Program) (ops : Array Oper) (W : World) (o : Oper) (v : Value) (a : Act) : Prop :=
  (Region.wanted o (yielded ops a.tmps) = true ∧ ∀ w, Below W.heap.size W w → (execOp a.eval o).run P w = .ok (.value v) w ∨
    ∃ f args, (execOp a.eval o).run P w = .ok (.enter f args) w ∧ Calls P f args w fun e w' => e = .returned v ∧ Below w.heap.size w w') ∨
  (Region.wanted o (yielded ops a.tmps) = false ∧ v = undef)
theorem YB.of_same {o : Oper} {v : Value} {a a' : Act} (hy : YB P ops W o v a) (he : execOp a'.eval o = execOp a.eval o)
    (hw : Region.wanted o (yielded ops a'.tmps) = Region.wanted o (yielded ops a.tmps)) : YB P ops W o v a' := by
  unfold YB at *
  rw [he, hw]
  exact hy
theorem YB.wpOp {i : Nat} {o : Oper} {v : Value} {a : Act} {w : World} {K : Act → World → Prop} {Q : Exit → Act → World → Prop} (hi : ops[i]? = some o) (hy : YB P ops W o v a) (hw : Below W.heap.size W w)
    (hK : ∀ w', Below w.heap.size w w' → K (a.put o.dst v) w') : wpOp P ops Q i K a w := by
  unfold Go.wpOp
  simp only [hi]
  rcases hy with ⟨hwt, hv⟩ | ⟨hwt, rfl⟩
  · simp only [hwt, if_true]
    refine .inl ?_
    unfold Oper.wp
    rcases hv w hw with e | ⟨f, args, e, hc⟩
    · rw [e]
      exact hK w (Below.refl _ _)
    · rw [e]
      exact hc.mono fun e w' ⟨he, hb⟩ => by subst he; exact hK w' hb
  · simp only [hwt, Bool.false_eq_true, if_false]
    exact hK w (Below.refl _ _)

inductive DetB (P : Program) (md : Region.Mode) (ops : Array Oper) (W : World) (n : Nat) (E : Array Bool → Act → Prop) : Nat → Array Bool → Act → Prop
  | done {listed : Array Bool} {a : Act} : (∀ j ∈ Region.ready md ops listed, n ≤ j) → E listed a → DetB P md ops W n E 0 listed a
  | step {k i : Nat} {listed : Array Bool} {a : Act} {o : Oper} {v : Value} : ops[i]? = some o → i < n → HeadInv md ops n listed → i ∈ Region.ready md ops listed →
      (∀ j oj, ops[j]? = some oj → j ≠ i → listed.getD j true = false → (∀ e ∈ oj.after, Region.binds md e = true → e.on ≠ i) → o.apart ops oj = true) →
      YB P ops W o v a → DetB P md ops W n E k (listed.setIfInBounds i true) (a.put o.dst v) → DetB P md ops W n E (k + 1) listed a
def TailWaitsB (md : Region.Mode) (ops : Array Oper) (n : Nat) : Prop :=
  ∀ listed, HeadInv md ops n listed → ∀ i, i < n → listed.getD i true = false → ∀ t ∈ Region.ready md ops listed, t < n

theorem DetB.any {n : Nat} {E : Array Bool → Act → Prop} (hsel : ∀ (j : Nat) (o : Oper) cs b, ops[j]? = some o → o.op ≠ .select cs b) (hT : TailWaitsB md ops n) :
    ∀ {k : Nat} {listed : Array Bool} {a : Act}, DetB P md ops W n E (k + 1) listed a →
      Region.ready md ops listed ≠ [] ∧ HeadInv md ops n listed ∧ ∀ j ∈ Region.ready md ops listed, j < n ∧ ∃ o v, ops[j]? = some o ∧ YB P ops W o v a ∧ DetB P md ops W n E k (listed.setIfInBounds j true) (a.put o.dst v) := by
  intro k
  induction k with
  | zero =>
    intro listed a h
    cases h with
    | @step _ i _ _ o v ho hin inv hr hap hy hd =>
      refine ⟨fun h => (by rw [h] at hr; cases hr), inv, fun j hj => ⟨hT _ inv i hin (mem_ready.1 hr).1 j hj, ?_⟩⟩
      by_cases hji : j = i
      · subst hji; exact ⟨o, v, ho, hy, hd⟩
      · cases hd with
        | done hge _ => have h1 := hT _ inv i hin (mem_ready.1 hr).1 j hj; have h2 := hge j (ready_mono hj hji); omega
  | succ k ih =>
    intro listed a h
    cases h with
    | @step _ i _ _ o v ho hin inv hr hap hy hd =>
      refine ⟨fun h => (by rw [h] at hr; cases hr), inv, fun j hj => ⟨hT _ inv i hin (mem_ready.1 hr).1 j hj, ?_⟩⟩
      by_cases hji : j = i
      · subst hji; exact ⟨o, v, ho, hy, hd⟩
      · obtain ⟨_, _, h2⟩ := ih hd
        obtain ⟨_, oj, u, hoj, hyj, hdj⟩ := h2 j (ready_mono hj hji)
        obtain ⟨hjun, oj', hoj', hall⟩ := mem_ready.1 hj
        obtain rfl : oj' = oj := Option.some.inj (hoj'.symm.trans hoj)
        have hun := (mem_ready.1 hr).1
        have hnot : ∀ e ∈ oj'.after, Region.binds md e = true → e.on ≠ i := fun e he hb heq => by
          have h1 := hall e he hb
          rw [heq, getD_both hun] at h1
          cases h1
        obtain ⟨a1, a2, a3⟩ := Oper.apart_spec (hap j oj' hoj hji hjun hnot)
        have hyj' := hyj.of_same (a' := a) (execOp_put oj' (fun cs b => hsel j oj' cs b hoj) a o.dst v a1).symm (wanted_put oj' a o.dst v a1).symm
        have hyi' := hy.of_same (a' := a.put oj'.dst u) (execOp_put o (fun cs b => hsel i o cs b ho) a oj'.dst u a3) (wanted_put o a oj'.dst u a3)
        refine ⟨oj', u, hoj, hyj', ?_⟩
        rw [Act.put_comm a v u a2, Array.setIfInBounds_comm _ _ (Ne.symm hji)] at hdj
        refine .step ho hin (inv.set hj (hT _ inv i hin hun j hj)) (ready_mono hr (Ne.symm hji)) ?_ hyi' hdj
        intro m om hm hmi hmun hmno
        refine hap m om hm hmi ?_ hmno
        by_cases hmj : j = m
        · subst hmj; exact hjun
        · rw [getD_set_ne true hmj] at hmun; exact hmun

theorem wpAny_of_detB {n g : Nat} {E : Array Bool → Act → Prop} {Q : Exit → Act → World → Prop} (hsel : ∀ (j : Nat) (o : Oper) cs b, ops[j]? = some o → o.op ≠ .select cs b) (hT : TailWaitsB md ops n)
    (hE : ∀ listed a w, E listed a → Below W.heap.size W w → wpAny P md ops Q g listed a w) :
    ∀ (k : Nat) (listed : Array Bool) (a : Act) (w : World), DetB P md ops W n E k listed a → Below W.heap.size W w → wpAny P md ops Q (k + g) listed a w
  | 0, listed, a, w, h, hw => by
    rw [Nat.zero_add]
    cases h with
    | done _ h => exact hE _ _ _ h hw
  | k + 1, listed, a, w, h, hw => by
    obtain ⟨h1, _, h2⟩ := DetB.any hsel hT h
    rw [show k + 1 + g = (k + g) + 1 by omega]
    refine ⟨fun h0 => absurd h0 h1, fun j hj => ?_⟩
    obtain ⟨_, o, v, ho, hy, hd⟩ := h2 j hj
    exact hy.wpOp ho hw fun w' hb => wpAny_of_detB hsel hT hE k _ _ w' hd (hw.trans (hb.mono hw.size))

/-- a world above W in which the block b was made -/
structure Made (W : World) (t : TypeId) (cs : Array Value) (b : Nat) (w : World) : Prop where
  below : Below W.heap.size W w
  ge : W.heap.size ≤ b
  blk : Blk w b t cs
theorem Made.step {t : TypeId} {cs : Array Value} {b : Nat} {w w' : World} (h : Made W t cs b w) (k : Below w.heap.size w w') : Made W t cs b w' :=
  ⟨h.below.trans (k.mono h.below.size), h.ge, h.blk.below k⟩

variable {f : Nat} {of : Oper} {t : TypeId} {cs : Array Value}
/-- behind the float: its pointer stands in every frame that follows -/
theorem float_behind {n g : Nat} {E : Array Bool → Act → Prop} {Q : Exit → Act → World → Prop} (hsel : ∀ (j : Nat) (o : Oper) cs b, ops[j]? = some o → o.op ≠ .select cs b) (hT : TailWaitsB md ops n)
    (hap : ∀ j o, ops[j]? = some o → j < n → j ≠ f → of.apart ops o = true) (b : Nat)
    (hE : ∀ listed a w, E listed a → Made W t cs b w → wpAny P md ops Q g listed (a.put of.dst (.pointer (some ⟨b, 0, none⟩))) w) :
    ∀ (k : Nat) (listed : Array Bool) (a : Act) (w : World), DetB P md ops W n E k listed a → listed.getD f false = true → Made W t cs b w → wpAny P md ops Q (k + g) listed (a.put of.dst (.pointer (some ⟨b, 0, none⟩))) w
  | 0, listed, a, w, h, _, hw => by
    rw [Nat.zero_add]
    cases h with
    | done _ h => exact hE _ _ _ h hw
  | k + 1, listed, a, w, h, hf, hw => by
    obtain ⟨h1, _, h2⟩ := DetB.any hsel hT h
    rw [show k + 1 + g = (k + g) + 1 by omega]
    refine ⟨fun h0 => absurd h0 h1, fun j hj => ?_⟩
    obtain ⟨hjn, o, v, ho, hy, hd⟩ := h2 j hj
    have hjf : j ≠ f := fun e => by
      subst e
      have := getD_both (mem_ready.1 hj).1
      rw [hf] at this
      cases this
    obtain ⟨a1, a2, a3⟩ := Oper.apart_spec (hap j o ho hjn hjf)
    have hy' := hy.of_same (a' := a.put of.dst (.pointer (some ⟨b, 0, none⟩))) (execOp_put o (fun cs b => hsel j o cs b ho) a of.dst _ a1) (wanted_put o a of.dst _ a1)
    refine hy'.wpOp ho hw.below fun w' hb => ?_
    have := float_behind hsel hT hap b hE k _ _ w' hd (getD_set_true hf) (hw.step hb)
    rw [Act.put_comm a _ v a2]
    exact this

/-- ahead of the float: it may come up at any time -/
theorem float_ahead {n g : Nat} {E : Array Bool → Act → Prop} {Q : Exit → Act → World → Prop} (hsel : ∀ (j : Nat) (o : Oper) cs b, ops[j]? = some o → o.op ≠ .select cs b) (hT : TailWaitsB md ops n)
    (hap : ∀ j o, ops[j]? = some o → j < n → j ≠ f → of.apart ops o = true) (hof : ops[f]? = some of) (hfn : f < n) (hno : of.after.all (fun e => !Region.binds md e) = true)
    (hal : ∀ (a : Act) (w : World), Region.wanted of (yielded ops a.tmps) = true ∧ (execOp a.eval of).run P w = .ok (.value (.pointer (some ⟨w.heap.size, 0, none⟩))) (w.alloc (.cells cs t)))
    (hE : ∀ b listed a w, E listed a → Made W t cs b w → wpAny P md ops Q g listed (a.put of.dst (.pointer (some ⟨b, 0, none⟩))) w) :
    ∀ (k : Nat) (listed : Array Bool) (a : Act) (w : World), DetB P md ops W n E k (listed.setIfInBounds f true) a → HeadInv md ops n listed → listed.getD f true = false → Below W.heap.size W w → wpAny P md ops Q (k + g + 1) listed a w := by
  intro k
  induction k with
  | zero =>
    intro listed a w h inv hf hw
    have hr : f ∈ Region.ready md ops listed := mem_ready.2 ⟨hf, of, hof, fun e he hb => by
      have := Array.all_eq_true_iff_forall_mem.1 hno e he
      rw [hb] at this
      cases this⟩
    have hfs : f < listed.size := by rw [inv.size]; exact (Array.getElem?_eq_some_iff.1 hof).1
    refine ⟨fun h0 => (by rw [h0] at hr; cases hr), fun j hj => ?_⟩
    by_cases hjf : j = f
    · subst hjf
      unfold wpOp
      simp only [hof, (hal a w).1, if_true]
      refine .inl ?_
      unfold Oper.wp
      rw [(hal a w).2]
      exact float_behind hsel hT hap _ (hE _) 0 _ _ _ h (by simp [hfs]) ⟨hw.alloc hw.size _, hw.size, Blk.new w t cs⟩
    · cases h with
      | done hge _ => have h1 := hge j (ready_mono hj hjf); have h2 := hT _ inv f hfn hf j hj; omega
  | succ k ih =>
    intro listed a w h inv hf hw
    have hr : f ∈ Region.ready md ops listed := mem_ready.2 ⟨hf, of, hof, fun e he hb => by
      have := Array.all_eq_true_iff_forall_mem.1 hno e he
      rw [hb] at this
      cases this⟩
    have hfs : f < listed.size := by rw [inv.size]; exact (Array.getElem?_eq_some_iff.1 hof).1
    refine ⟨fun h0 => (by rw [h0] at hr; cases hr), fun j hj => ?_⟩
    by_cases hjf : j = f
    · subst hjf
      unfold wpOp
      simp only [hof, (hal a w).1, if_true]
      refine .inl ?_
      unfold Oper.wp
      rw [(hal a w).2]
      exact float_behind hsel hT hap _ (hE _) (k + 1) _ _ _ h (by simp [hfs]) ⟨hw.alloc hw.size _, hw.size, Blk.new w t cs⟩
    · obtain ⟨_, _, h2⟩ := DetB.any hsel hT h
      obtain ⟨hjn, o, v, ho, hy, hd⟩ := h2 j (ready_mono hj hjf)
      rw [show k + 1 + g = k + g + 1 by omega]
      refine hy.wpOp ho hw fun w' hb => ?_
      rw [Array.setIfInBounds_comm _ _ (Ne.symm hjf)] at hd
      exact ih _ _ w' hd (inv.set hj hjn) (by rw [getD_set_ne true hjf]; exact hf) (hw.trans (hb.mono hw.size))

/-- the check: so many operations from k on, each ready and free; then the tail from n on, one behind the other -/
def headF (md : Region.Mode) (ops : Array Oper) (g n : Nat) : Nat → Nat → Array Bool → Bool
  | 0, _, listed => Region.seqB md ops g n listed
  | m + 1, k, listed => (Region.ready md ops listed).contains k && Region.free md ops listed k && headF md ops g n m (k + 1) (listed.setIfInBounds k true)

/-- the walk in the text's order; nobody looks into it -/
inductive WalkB (P : Program) (ops : Array Oper) (W : World) (Q : Act → Prop) : List Oper → Act → Prop
  | nil {a : Act} : Q a → WalkB P ops W Q [] a
  | cons {o : Oper} {rest : List Oper} {a : Act} {v : Value} : YB P ops W o v a → WalkB P ops W Q rest (a.put o.dst v) → WalkB P ops W Q (o :: rest) a

theorem detB_lex {n g : Nat} {Lq : Act → Prop} :
    ∀ (l : List Oper) (k : Nat) (listed : Array Bool) (a : Act), (∀ j, j < l.length → l[j]? = ops[k + j]?) → k + l.length ≤ n → HeadInv md ops n listed →
    headF md ops g n l.length k listed = true → WalkB P ops W Lq l a →
    DetB P md ops W n (fun listed' a' => Region.seqB md ops g n listed' = true ∧ Lq a') l.length listed a
  | [], k, listed, a, _, _, _, hB, h => by
    have hs : Region.seqB md ops g n listed = true := by simpa [headF] using hB
    cases h with
    | nil h => exact .done (seqB_ready hs) ⟨hs, h⟩
  | o :: l, k, listed, a, hl, hk, inv, hB, h => by
    have h0 : ops[k]? = some o := by simpa using (hl 0 (by simp)).symm
    simp only [List.length_cons, headF, Bool.and_eq_true] at hB
    obtain ⟨⟨hr, hf⟩, hB'⟩ := hB
    have hkn : k < n := by simp only [List.length_cons] at hk; omega
    have hr' : k ∈ Region.ready md ops listed := by simpa using hr
    cases h with
    | cons hy hd =>
      refine .step h0 hkn inv hr' (Region.free_spec h0 hf) hy ?_
      exact (detB_lex l (k + 1) _ _ (fun j hj => by have := hl (j + 1) (by simp; omega); simpa [Nat.add_assoc, Nat.add_comm 1 j] using this) (by simp only [List.length_cons] at hk; omega) (inv.set hr' hkn) hB' hd)

def tailOkB (ops : Array Oper) (n : Nat) : Bool := Region.noSelect ops && (decide (n = ops.size) || (decide (n < ops.size) && Region.sinkB .any ops n && Region.chainB .any ops n))
theorem tailOkB_spec {n : Nat} (h : tailOkB ops n = true) : Region.noSelect ops = true ∧ n ≤ ops.size ∧ TailWaitsB .any ops n := by
  simp only [tailOkB, Bool.and_eq_true, Bool.or_eq_true, decide_eq_true_eq] at h
  obtain ⟨hsel, hn⟩ := h
  refine ⟨hsel, ?_, ?_⟩
  · rcases hn with h | ⟨⟨h, _⟩, _⟩ <;> omega
  · intro listed inv i hi hun t ht
    rcases hn with h | ⟨⟨h, hs⟩, hc⟩
    · obtain ⟨_, o, ho, _⟩ := mem_ready.1 ht
      have := (Array.getElem?_eq_some_iff.1 ho).1
      omega
    · rcases Nat.lt_or_ge t n with h1 | h1
      · exact h1
      · exact absurd ht (tail_waits hs hc h inv _ i rfl hi hun t h1)
theorem inv_new (n : Nat) : HeadInv md ops n (Array.replicate ops.size false) :=
  ⟨by simp, fun j oj _ hl => (by rw [getD_replicate_false] at hl; cases hl), fun t _ ht => getD_in (by simpa using ht) (getD_replicate_false _ _)⟩

/-- n operations, then the rest one behind the other -/
theorem wp_region_b {id : Nat} {Q : Exit → Act → World → Prop} {a : Act} {w : World} {l : List Oper} (n : Nat) (hm : P.follows .mixedOrders = true)
    (hB : (tailOkB l.toArray n && headF .any l.toArray (l.toArray.size - n) n n 0 (Array.replicate l.toArray.size false)) = true)
    (h : WalkB P l.toArray w (fun a' => ∀ w', Below w.heap.size w w' → wpList P l.toArray Q (l.drop n) a' w') (l.take n) a) : (Code.region id l.toArray true).wp P Q a w := by
  rw [Bool.and_eq_true] at hB
  obtain ⟨hok, hlex⟩ := hB
  obtain ⟨hsel, hnl, hT⟩ := tailOkB_spec hok
  have htl : (l.take n).length = n := by simp at hnl ⊢; omega
  have hdl : (l.drop n).length = l.toArray.size - n := by simp
  have H := detB_lex (P := P) (md := .any) (W := w) (n := n) (g := l.toArray.size - n) (l.take n) 0 _ a (fun j hj => by
    have hj' : j < n := by rw [htl] at hj; exact hj
    simp [hj']) (by rw [htl]; omega) (inv_new n) (by rw [htl]; exact hlex) h
  refine wp_region_any hm ?_
  have := wpAny_of_detB (Q := Q) (g := l.toArray.size - n) (Region.noSelect_spec hsel) hT (fun listed a' w' hL hw => by
    have := wpAny_of_seq (md := .any) (Q' := Q) (l.drop n) n listed a' w' (fun j => by simp [List.getElem?_drop]) (by rw [hdl]; exact hL.1) (hL.2 w' hw)
    rwa [hdl] at this) _ _ _ w.drew H (Below.refl _ _).drew
  rw [htl, show n + (l.toArray.size - n) = l.toArray.size by omega] at this
  exact this

/-- n operations and, right behind them in the text, a variable that is made (at any time); then the rest one behind the other -/
theorem wp_region_f {id : Nat} {Q : Exit → Act → World → Prop} {a : Act} {w : World} {l : List Oper} (n : Nat) (t : TypeId) (cs : Array Value) {of : Oper} (hm : P.follows .mixedOrders = true) (hof : l[n]? = some of)
    (hB : (tailOkB l.toArray (n + 1) && headF .any l.toArray (l.toArray.size - (n + 1)) (n + 1) n 0 ((Array.replicate l.toArray.size false).setIfInBounds n true) && of.after.all (fun e => !Region.binds .any e) && (l.take n).all (fun o => of.apart l.toArray o) && of.guard.isNone) = true)
    (hal : ∀ (ρ : Operand → Value) (w : World), (execOp ρ of).run P w = .ok (.value (.pointer (some ⟨w.heap.size, 0, none⟩))) (w.alloc (.cells cs t)))
    (h : WalkB P l.toArray w (fun a' => ∀ b w', Made w t cs b w' → wpList P l.toArray Q (l.drop (n + 1)) (a'.put of.dst (.pointer (some ⟨b, 0, none⟩))) w') (l.take n) a) : (Code.region id l.toArray true).wp P Q a w := by
  simp only [Bool.and_eq_true] at hB
  obtain ⟨⟨⟨⟨hok, hlex⟩, hno⟩, hap⟩, hgd⟩ := hB
  obtain ⟨hsel, hnl, hT⟩ := tailOkB_spec hok
  have hnl' : n < l.length := by simp at hnl; omega
  have htl : (l.take n).length = n := by simp; omega
  have hdl : (l.drop (n + 1)).length = l.toArray.size - (n + 1) := by simp
  have hof' : l.toArray[n]? = some of := by simpa using hof
  have inv1 : HeadInv .any l.toArray (n + 1) ((Array.replicate l.toArray.size false).setIfInBounds n true) :=
    (inv_new (n + 1)).set (mem_ready.2 ⟨getD_in (by simpa using hnl') (getD_replicate_false _ _), of, hof', fun e he hb => by
      have := Array.all_eq_true_iff_forall_mem.1 hno e he
      rw [hb] at this
      cases this⟩) (by omega)
  have H := detB_lex (P := P) (md := .any) (W := w) (n := n + 1) (g := l.toArray.size - (n + 1)) (l.take n) 0 _ a (fun j hj => by
    have hj' : j < n := by rw [htl] at hj; exact hj
    simp [hj']) (by rw [htl]; omega) inv1 (by rw [htl]; exact hlex) h
  refine wp_region_any hm ?_
  have hwt : ∀ a : Act, Region.wanted of (yielded l.toArray a.tmps) = true := fun a => by
    have : of.guard = none := by simpa using hgd
    simp [Region.wanted, this]
  have := float_ahead (Q := Q) (f := n) (of := of) (t := t) (cs := cs) (g := l.toArray.size - (n + 1)) (Region.noSelect_spec hsel) hT (fun j o ho hj hjn => by
      have hjn' : j < n := by omega
      have ho' : (l.take n)[j]? = some o := by rw [List.getElem?_take]; simp [hjn']; simpa using ho
      exact List.all_eq_true.1 hap o (List.mem_of_getElem? ho')) hof' (by omega) hno (fun a w => ⟨hwt a, hal _ _⟩)
    (fun b listed a' w' hL hw => by
      have := wpAny_of_seq (md := .any) (Q' := Q) (l.drop (n + 1)) (n + 1) listed (a'.put of.dst (.pointer (some ⟨b, 0, none⟩))) w' (fun j => by simp [List.getElem?_drop]) (by rw [hdl]; exact hL.1) (hL.2 b w' hw)
      rwa [hdl] at this) _ _ _ w.drew H (inv_new (n + 1)) (getD_in (by simpa using hnl') (getD_replicate_false _ _)) (Below.refl _ _).drew
  rw [htl, show n + (l.toArray.size - (n + 1)) + 1 = l.toArray.size by simp at hnl ⊢; omega] at this
  exact this

variable {Q : Act → Prop} {a : Act} {o : Oper} {rest : List Oper}
theorem lb_skip (hw : Region.wanted o (yielded ops a.tmps) = false) (h : ∃ a', a.put o.dst undef = a' ∧ WalkB P ops W Q rest a') : WalkB P ops W Q (o :: rest) a := by
  obtain ⟨a', ha, h⟩ := h
  exact .cons (.inr ⟨hw, rfl⟩) (by rw [ha]; exact h)
theorem lb_val (hw : Region.wanted o (yielded ops a.tmps) = true) (h : ∃ v, (∀ w, Below W.heap.size W w → (execOp a.eval o).run P w = .ok (.value v) w) ∧ ∃ a', a.put o.dst v = a' ∧ WalkB P ops W Q rest a') : WalkB P ops W Q (o :: rest) a := by
  obtain ⟨v, hv, a', ha, h⟩ := h
  exact .cons (.inl ⟨hw, fun w hb => .inl (hv w hb)⟩) (by rw [ha]; exact h)
theorem lb_move (x : Operand) (hw : Region.wanted o (yielded ops a.tmps) = true) (hop : o.op = .move x) (h : ∃ v, a.eval x = v ∧ ∃ a', a.put o.dst v = a' ∧ WalkB P ops W Q rest a') : WalkB P ops W Q (o :: rest) a := by
  obtain ⟨v, hv, h⟩ := h
  exact lb_val hw ⟨v, fun w _ => by rw [BigFrame.run_move x hop, hv], h⟩
theorem lb_assign (x : Operand) (hw : Region.wanted o (yielded ops a.tmps) = true) (hop : o.op = .assign x) (h : ∃ v, a.eval x = v ∧ ∃ a', a.put o.dst v = a' ∧ WalkB P ops W Q rest a') : WalkB P ops W Q (o :: rest) a := by
  obtain ⟨v, hv, h⟩ := h
  exact lb_val hw ⟨v, fun w _ => by rw [BigFrame.run_assign x hop, hv], h⟩
theorem lb_call {v : Value} {f : FuncId} {args : Array Value} (hw : Region.wanted o (yielded ops a.tmps) = true) (hc : ∀ w, Below W.heap.size W w → Calls P f args w fun e w' => e = .returned v ∧ Below w.heap.size w w') (hv : ∀ w, (execOp a.eval o).run P w = .ok (.enter f args) w)
    (h : ∃ a', a.put o.dst v = a' ∧ WalkB P ops W Q rest a') : WalkB P ops W Q (o :: rest) a := by
  obtain ⟨a', ha, h⟩ := h
  exact .cons (.inl ⟨hw, fun w hb => .inr ⟨f, args, hv w, hc w hb⟩⟩) (by rw [ha]; exact h)
end
end Go.Proofs.Ytdnljmncdbcgeaa
