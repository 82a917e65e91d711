/- fence.Close. -/
import Derived.Test.YtffimpjjdhnajaaFenceSound
import Derived.LoopTactic
import Derived.WalkMore
import Derived.ScopeJumps
import Derived.Test.YtffimpjjdhnajaaClassF
import Derived.Deep.RegionHeld3
namespace Go.Proofs.Ytffimpjjdhnajaa
open Go.RowKit Go.WideShapes Go.ChangeShapes Go.ChangeAt

section
variable {P : Program} {a : Act} {w : World} {Q : Exit → Act → World → Prop}
/-- A scope in which the run jumps back to one label: what holds at every jump, with a number that every pass lowers; the way to the label is walked once. -/
theorem Turns.paths {l x : List CV} (h : Turns l x) : x.map CV.p = l.map CV.p := by
  induction h with
  | none => rfl
  | turn _ _ ih => rw [← ih]; simp [CV.conf]
theorem Turns.path {l x : List CV} (h : Turns l x) {i : Nat} {a : CV} (ha : x[i]? = some a) : a.p ∈ l.map CV.p := by
  rw [← h.paths]
  exact List.mem_map_of_mem (List.mem_of_getElem? ha)
theorem wp_scope_ghost {c rest r : Code} (l : Nat) (J : Nat → Act → World → Prop) (hf : findLabel c l = some rest) (hr : ∀ Q a w, r.wp P Q a w → rest.wp P Q a w)
    (pass' : ∀ n a w, J n a w → r.wp P (Exit.jump l (fun a' w' => ∃ m, m < n ∧ J m a' w') Q) a w)
    (first : (∀ n a w, J n a w → r.wp P (Exit.jump l (fun a' w' => ∃ m, J m a' w') Q) a w) → c.wp P (Exit.jump l (fun a' w' => ∃ m, J m a' w') Q) a w) : (Code.scope c).wp P Q a w := by
  have first' := first (fun n a w hJ => Code.wp_mono (fun e a' w' h => by
    cases e with
    | goto l' => obtain ⟨h1, m, _, h2⟩ := h; exact ⟨h1, m, h2⟩
    | normal => exact h
    | exit id => exact h
    | ret => exact h
    | panic ch => exact h
    | outgrown => exact h) (pass' n a w hJ))
  have pass := fun n a w hJ => hr _ _ _ (pass' n a w hJ)
  intro b k cs
  have hg : gotoIn l (.inScope c :: k) = some (.code rest :: .inScope c :: k) := by simp [gotoIn, hf]
  have key : ∀ n a w, J n a w → ∃ e a' w', Q e a' w' ∧ Arrives P (lone (b.at a (.code rest :: .inScope c :: k)) cs w) b k cs e a' w' := by
    intro n
    induction n using Nat.strongRecOn with
    | _ n ih =>
      intro a w hJ
      obtain ⟨e, a₁, w₁, hq, harr⟩ := pass n a w hJ b (.inScope c :: k) cs
      cases e with
      | normal => exact ⟨.normal, a₁, w₁, hq, Steps.trans harr (.one step_inScope)⟩
      | exit id => exact ⟨.exit id, a₁, w₁, hq, fun k' hk => harr k' (by simp [exitTo, hk])⟩
      | goto l' =>
        obtain ⟨rfl, m, hlt, hJ'⟩ := hq
        obtain ⟨e₂, a₂, w₂, hq₂, harr₂⟩ := ih m hlt a₁ w₁ hJ'
        exact ⟨e₂, a₂, w₂, hq₂, .of_steps (harr _ hg) harr₂⟩
      | ret => exact ⟨_, a₁, w₁, hq, harr⟩
      | panic ch => exact ⟨_, a₁, w₁, hq, harr⟩
      | outgrown => exact ⟨_, a₁, w₁, hq, harr⟩
  obtain ⟨e, a₁, w₁, hq, harr⟩ := first' b (.inScope c :: k) cs
  cases e with
  | normal => exact ⟨.normal, a₁, w₁, hq, .head step_scope (Steps.trans harr (.one step_inScope))⟩
  | exit id => exact ⟨.exit id, a₁, w₁, hq, fun k' hk => .head step_scope (harr k' (by simp [exitTo, hk]))⟩
  | goto l' =>
    obtain ⟨rfl, m, hJ'⟩ := hq
    obtain ⟨e₂, a₂, w₂, hq₂, harr₂⟩ := key m a₁ w₁ hJ'
    exact ⟨e₂, a₂, w₂, hq₂, .of_steps (.head step_scope (harr _ hg)) harr₂⟩
  | ret => exact ⟨_, a₁, w₁, hq, .of_steps (.one step_scope) harr⟩
  | panic ch => exact ⟨_, a₁, w₁, hq, .of_steps (.one step_scope) harr⟩
  | outgrown => exact ⟨_, a₁, w₁, hq, .of_steps (.one step_scope) harr⟩
end


/-- what holds at the label -/
def ClJ (w : World) (v : Value) (l : List CV) (n : Nat) (a : Act) (w' : World) : Prop :=
  ∃ (A : Option Addr) (c N : Nat) (x : List CV) (u4 u5 u6 u7 u8 u9 u10 u11 u12 u13 u14 u15 u16 u17 u18 u19 u20 u21 u22 u23 u24 u25 u26 u27 u28 u29 u30 u31 u32 u33 u34 u35 u36 u37 u38 u39 u40 u41 u42 u43 u44 u45 u46 u47 u48 : Value), a = { tmps := #[v, undef, .slice none 0 0, .slice A N c, u4, u5, u6, u7, u8, u9, u10, u11, u12, u13, u14, u15, u16, u17, u18, u19, u20, u21, u22, u23, u24, u25, u26, u27, u28, u29, u30, u31, u32, u33, u34, u35, u36, u37, u38, u39, u40, u41, u42, u43, u44, u45, u46, u47, u48], defers := [] } ∧ x.length = N ∧
    Turns l x ∧ mv x = n ∧ Row w' w.heap.size 44 9 A x.length c (x.flatMap CV.cells) ∧ Below w.heap.size w w'


set_option maxRecDepth 100000 in
set_option maxHeartbeats 2000000 in
theorem close_row (A : Option Addr) (c : Nat) (l : List CV) (Z : Nat → Prop) (w : World) (h : Chs w Z A l) (hlen : l.length ≤ 1000000) :
    Calls Try.prog 37 #[.slice A l.length c] w fun e w' => ∃ (A' : Option Addr) (c' : Nat) (x : List CV), e = .returned (.slice A' x.length c') ∧ Closes l x ∧ Row w' w.heap.size 44 9 A' x.length c' (x.flatMap CV.cells) ∧ Below w.heap.size w w' := by
  have hp : ∀ o : CV, o.p ∈ l.map CV.p → o.p.size ≤ 140737488355328 := fun o ho => by
    obtain ⟨q, hq, e⟩ := List.mem_map.1 ho
    rw [← e]
    exact h.p q hq
  go_enter Try.func37, Try.ntmps37
  go_wp2_with fail
  refine wp_scope_ghost 0 (ClJ w (.slice A l.length c) l) rfl (fun Q a w h => wp_seq (wp_skip h)) ?_ ?_
  · rintro n a w1 ⟨A1, c1, N, x, u4, u5, u6, u7, u8, u9, u10, u11, u12, u13, u14, u15, u16, u17, u18, u19, u20, u21, u22, u23, u24, u25, u26, u27, u28, u29, u30, u31, u32, u33, u34, u35, u36, u37, u38, u39, u40, u41, u42, u43, u44, u45, u46, u47, u48, rfl, hN, ht, hn, hrow, hb⟩
    subst hN
    have hxl : x.length ≤ 1000000 := by have := congrArg List.length ht.paths; simp at this; omega
    go_wp2_with fail
    go_loopw [11] (fun iv wr => ∃ i : Nat, i ≤ x.length ∧ iv = .int .i64 (i : Int) ∧ Hid (∀ (j k : Nat) (a b : CV), j < i → x[j]? = some a → x[k]? = some b → upB a b = false ∧ lowB a b = false) ∧ Below w1.heap.size w1 wr) (fun iv _ => x.length - (intOf iv).toNat)
    case atStart => exact ⟨0, Nat.zero_le _, rfl, fun j k a b hj => absurd hj (Nat.not_lt_zero _), Below.refl _ _⟩
    case round =>
      obtain ⟨i, hi, rfl, hd, hb1⟩ := hrel
      obtain ⟨wp, rfl⟩ : ∃ wp : World, wp = wr := ⟨_, rfl⟩
      by_cases hlt : i < x.length
      · have HX := Lib.hid (show x[i]? = some x[i] from List.getElem?_eq_getElem hlt)
        generalize x[i] = xi at *
        go_wp2_with fail
        go_loopw [16] (fun kv wr => ∃ k : Nat, k ≤ x.length ∧ kv = .int .i64 (k : Int) ∧ Hid (∀ (k' : Nat) (b : CV), k' < k → x[k']? = some b → upB xi b = false ∧ lowB xi b = false) ∧ Below w1.heap.size w1 wr) (fun kv _ => x.length - (intOf kv).toNat)
        case atStart => exact ⟨0, Nat.zero_le _, rfl, fun k' b hk => absurd hk (Nat.not_lt_zero _), hb1⟩
        case round =>
          obtain ⟨k, hk, rfl, hdk, hb2⟩ := hrel
          by_cases hlk : k < x.length
          · have HY := Lib.hid (show x[k]? = some x[k] from List.getElem?_eq_getElem hlk)
            have rowr := hrow.below hb2
            obtain ⟨g, off, rfl, hz, hgb, at1⟩ := ch_at rowr.rd hlt
            obtain ⟨g', off', hA, hz', hgb', at2⟩ := ch_at rowr.rd hlk
            injection hA with hA
            injection hA with hA1 hA2
            subst hA1 hA2
            rw [show x[i] = xi from by have := HX.out; rw [List.getElem?_eq_getElem hlt] at this; injection this] at at1
            generalize x[k] = xk at *
            have hxp := hp xi (ht.path HX.out)
            have hyp := hp xk (ht.path HY.out)
            have HC := Lib.hid (fun w => clash_any xi xk (by omega) (by omega) w)
            have hUL : Hid (upB xi xk = false → lowB xi xk = false → ∀ (k' : Nat) (b : CV), k' < k + 1 → x[k']? = some b → upB xi b = false ∧ lowB xi b = false) := fun e1 e2 k' b hk' hb' => by
              rcases Nat.lt_or_ge k' k with h1 | h1
              · exact hdk.out k' b h1 hb'
              · obtain rfl : k' = k := by omega
                rw [HY.out] at hb'
                injection hb' with hb'
                rw [← hb']
                exact ⟨e1, e2⟩
            have hFU : Hid (upB xi xk = true → Forced x xi) := fun e => .inl ⟨xk, List.mem_of_getElem? HY.out, e⟩
            have hFL : Hid (lowB xi xk = true → Forced x xk) := fun e => .inr ⟨xi, List.mem_of_getElem? HX.out, e⟩
            clear hdk hxp hyp
            have HT := Lib.hid ht
            have HR := Lib.hid rowr
            have HN := Lib.hid hn
            generalize upB xi xk = sp at *
            generalize lowB xi xk = sq at *
            cases sp <;> cases sq
            · have HUL2 := Lib.hid (hUL.out rfl rfl)
              clear hUL hFU hFL ht hn rowr hd hrow
              go_wp2_with fail
              refine wp_region_f 9 71 #[.bool false, .bool false] (by kernel_rfl) rfl (by kernel_rfl) (fun ρ w' => by go_simp) ?_
              simp only [List.take_succ_cons, List.take_zero, List.drop_succ_cons, List.drop_zero]
              refine lb_move _ (by kernel_rfl) rfl ⟨_, (by ((try simp [go_sem]); (try rfl); done)), _, (by (simp only [Act.put, List.setIfInBounds_toArray, List.set_cons_zero, List.set_cons_succ]; rfl)), ?_⟩
              refine lb_move _ (by kernel_rfl) rfl ⟨_, (by ((try simp [go_sem]); (try rfl); done)), _, (by (simp only [Act.put, List.setIfInBounds_toArray, List.set_cons_zero, List.set_cons_succ]; rfl)), ?_⟩
              refine lb_val (by kernel_rfl) ⟨_, (by (intro w' hC; clear hC; (try go_simp); (try with_reducible rfl); done)), _, (by (simp only [Act.put, List.setIfInBounds_toArray, List.set_cons_zero, List.set_cons_succ]; rfl)), ?_⟩
              refine lb_val (by kernel_rfl) ⟨_, (by (intro w' hC; (obtain ⟨a0, a1, a2, a3, a4, a5, a6, a7, a8⟩ := at1.below hgb hC); clear hC; (try go_simp); (try with_reducible rfl); done)), _, (by (simp only [Act.put, List.setIfInBounds_toArray, List.set_cons_zero, List.set_cons_succ]; rfl)), ?_⟩
              refine lb_move _ (by kernel_rfl) rfl ⟨_, (by ((try simp [go_sem]); (try rfl); done)), _, (by (simp only [Act.put, List.setIfInBounds_toArray, List.set_cons_zero, List.set_cons_succ]; rfl)), ?_⟩
              refine lb_move _ (by kernel_rfl) rfl ⟨_, (by ((try simp [go_sem]); (try rfl); done)), _, (by (simp only [Act.put, List.setIfInBounds_toArray, List.set_cons_zero, List.set_cons_succ]; rfl)), ?_⟩
              refine lb_val (by kernel_rfl) ⟨_, (by (intro w' hC; clear hC; (try go_simp); (try with_reducible rfl); done)), _, (by (simp only [Act.put, List.setIfInBounds_toArray, List.set_cons_zero, List.set_cons_succ]; rfl)), ?_⟩
              refine lb_val (by kernel_rfl) ⟨_, (by (intro w' hC; (obtain ⟨c0, c1, c2, c3, c4, c5, c6, c7, c8⟩ := at2.below hgb hC); clear hC; (try go_simp); (try with_reducible rfl); done)), _, (by (simp only [Act.put, List.setIfInBounds_toArray, List.set_cons_zero, List.set_cons_succ]; rfl)), ?_⟩
              refine lb_call (by kernel_rfl) (fun w' hC => HC.out _) (by (intro w'; go_simp; done)) ⟨_, (by (simp only [Act.put, List.setIfInBounds_toArray, List.set_cons_zero, List.set_cons_succ]; rfl)), ?_⟩
              refine .nil ?_
              simp only [Act.put, List.setIfInBounds_toArray, List.set_cons_zero, List.set_cons_succ]
              rintro b w2 ⟨hb3, hge, hbl⟩
              have e0 := hbl.cell 0
              have e1 := hbl.cell 1
              have f0 := hbl.frozen 0
              have f1 := hbl.frozen 1
              obtain ⟨b2, k2⟩ := side_two (x' := .bool false) (y' := .bool false) hbl
              have hne : ¬ g = b := by omega
              have hne2 : ¬ b = g := by omega
              have row4 := (HR.out.below hb3).fr k2 (fun g' hg' e => by injection hg' with hg'; exact hne (hg'.trans e))
              have hb4 : Below w1.heap.size w1 ((w2.setCell ⟨b, 0, none⟩ (.bool false)).setCell ⟨b, 1, none⟩ (.bool false)) := (hb2.trans (hb3.mono hb2.size)).trans (k2.below (by have := hb2.size; have := hb3.size; omega) (fun k' hk' e => by have := hb2.size; omega))
              have d0 : ((w2.setCell ⟨b, 0, none⟩ (.bool false)).setCell ⟨b, 1, none⟩ (.bool false)).cell? ⟨b, 0, none⟩ = some (.bool false) := b2.cell 0
              have d1 : ((w2.setCell ⟨b, 0, none⟩ (.bool false)).setCell ⟨b, 1, none⟩ (.bool false)).cell? ⟨b, 1, none⟩ = some (.bool false) := b2.cell 1
              have hsz : w2.heap.size ≤ ((w2.setCell ⟨b, 0, none⟩ (.bool false)).setCell ⟨b, 1, none⟩ (.bool false)).heap.size := k2.size
              clear b2 k2 hbl
              rename_i K hK _
              have HK := Lib.hid hK
              have D0 := Lib.hid d0
              have D1 := Lib.hid d1
              clear hK d0 d1
              go_wp2_with fail
              clear e0 e1 f0 f1
              generalize ((w2.setCell ⟨b, 0, none⟩ (.bool false)).setCell ⟨b, 1, none⟩ (.bool false)) = V at *
              have d0 := D0.out
              have d1 := D1.out
              clear D0 D1
              refine HK.out _ _ ?_
              clear HK
              have hb5 := Lib.hid hb4
              clear row4 hb4 HR
              go_wp2_with fail
              go_roundw
              case rel => exact ⟨k + 1, hlk, by go_num, HUL2.out, hb5.out⟩
              case measure => simp [intOf]; omega
            · have HF2 : Hid (Forced x xk) := hFL.out rfl
              clear hUL hFU hFL ht hn rowr hd hrow
              go_wp2_with fail
              refine wp_region_f 9 71 #[.bool false, .bool false] (by kernel_rfl) rfl (by kernel_rfl) (fun ρ w' => by go_simp) ?_
              simp only [List.take_succ_cons, List.take_zero, List.drop_succ_cons, List.drop_zero]
              refine lb_move _ (by kernel_rfl) rfl ⟨_, (by ((try simp [go_sem]); (try rfl); done)), _, (by (simp only [Act.put, List.setIfInBounds_toArray, List.set_cons_zero, List.set_cons_succ]; rfl)), ?_⟩
              refine lb_move _ (by kernel_rfl) rfl ⟨_, (by ((try simp [go_sem]); (try rfl); done)), _, (by (simp only [Act.put, List.setIfInBounds_toArray, List.set_cons_zero, List.set_cons_succ]; rfl)), ?_⟩
              refine lb_val (by kernel_rfl) ⟨_, (by (intro w' hC; clear hC; (try go_simp); (try with_reducible rfl); done)), _, (by (simp only [Act.put, List.setIfInBounds_toArray, List.set_cons_zero, List.set_cons_succ]; rfl)), ?_⟩
              refine lb_val (by kernel_rfl) ⟨_, (by (intro w' hC; (obtain ⟨a0, a1, a2, a3, a4, a5, a6, a7, a8⟩ := at1.below hgb hC); clear hC; (try go_simp); (try with_reducible rfl); done)), _, (by (simp only [Act.put, List.setIfInBounds_toArray, List.set_cons_zero, List.set_cons_succ]; rfl)), ?_⟩
              refine lb_move _ (by kernel_rfl) rfl ⟨_, (by ((try simp [go_sem]); (try rfl); done)), _, (by (simp only [Act.put, List.setIfInBounds_toArray, List.set_cons_zero, List.set_cons_succ]; rfl)), ?_⟩
              refine lb_move _ (by kernel_rfl) rfl ⟨_, (by ((try simp [go_sem]); (try rfl); done)), _, (by (simp only [Act.put, List.setIfInBounds_toArray, List.set_cons_zero, List.set_cons_succ]; rfl)), ?_⟩
              refine lb_val (by kernel_rfl) ⟨_, (by (intro w' hC; clear hC; (try go_simp); (try with_reducible rfl); done)), _, (by (simp only [Act.put, List.setIfInBounds_toArray, List.set_cons_zero, List.set_cons_succ]; rfl)), ?_⟩
              refine lb_val (by kernel_rfl) ⟨_, (by (intro w' hC; (obtain ⟨c0, c1, c2, c3, c4, c5, c6, c7, c8⟩ := at2.below hgb hC); clear hC; (try go_simp); (try with_reducible rfl); done)), _, (by (simp only [Act.put, List.setIfInBounds_toArray, List.set_cons_zero, List.set_cons_succ]; rfl)), ?_⟩
              refine lb_call (by kernel_rfl) (fun w' hC => HC.out _) (by (intro w'; go_simp; done)) ⟨_, (by (simp only [Act.put, List.setIfInBounds_toArray, List.set_cons_zero, List.set_cons_succ]; rfl)), ?_⟩
              refine .nil ?_
              simp only [Act.put, List.setIfInBounds_toArray, List.set_cons_zero, List.set_cons_succ]
              rintro b w2 ⟨hb3, hge, hbl⟩
              have e0 := hbl.cell 0
              have e1 := hbl.cell 1
              have f0 := hbl.frozen 0
              have f1 := hbl.frozen 1
              obtain ⟨b2, k2⟩ := side_two (x' := .bool false) (y' := .bool true) hbl
              have hne : ¬ g = b := by omega
              have hne2 : ¬ b = g := by omega
              have row4 := (HR.out.below hb3).fr k2 (fun g' hg' e => by injection hg' with hg'; exact hne (hg'.trans e))
              have hb4 : Below w1.heap.size w1 ((w2.setCell ⟨b, 0, none⟩ (.bool false)).setCell ⟨b, 1, none⟩ (.bool true)) := (hb2.trans (hb3.mono hb2.size)).trans (k2.below (by have := hb2.size; have := hb3.size; omega) (fun k' hk' e => by have := hb2.size; omega))
              have d0 : ((w2.setCell ⟨b, 0, none⟩ (.bool false)).setCell ⟨b, 1, none⟩ (.bool true)).cell? ⟨b, 0, none⟩ = some (.bool false) := b2.cell 0
              have d1 : ((w2.setCell ⟨b, 0, none⟩ (.bool false)).setCell ⟨b, 1, none⟩ (.bool true)).cell? ⟨b, 1, none⟩ = some (.bool true) := b2.cell 1
              have hsz : w2.heap.size ≤ ((w2.setCell ⟨b, 0, none⟩ (.bool false)).setCell ⟨b, 1, none⟩ (.bool true)).heap.size := k2.size
              clear b2 k2 hbl
              rename_i K hK _
              have HK := Lib.hid hK
              have D0 := Lib.hid d0
              have D1 := Lib.hid d1
              clear hK d0 d1
              go_wp2_with fail
              clear e0 e1 f0 f1
              generalize ((w2.setCell ⟨b, 0, none⟩ (.bool false)).setCell ⟨b, 1, none⟩ (.bool true)) = V at *
              have d0 := D0.out
              have d1 := D1.out
              clear D0 D1
              refine HK.out _ _ ?_
              clear HK
              have hbV := hb.trans (hb4.mono hb.size)
              have hrowge : w.heap.size ≤ g := (row4.lt g rfl).1
              have hkk := HY.out
              have hii := HX.out
              obtain ⟨T1, L1, M1⟩ := Turns.set_le HT.out (Le.refl x) hkk hkk HF2.out
              have qV2 : V.cell? ⟨g, off + k * 9 + 8, none⟩ = some (.int .i64 xk.v) := by
                have hq := row4.cell (g := g) (off := off) (j := k * 9 + 8) (u := .int .i64 xk.v) (by rw [flat_get (k := 9) ch_len x k 8 (by have := (List.getElem?_eq_some_iff.1 hkk).1; omega) (by omega)]; have := hkk; rw [List.getElem?_eq_getElem (by have := (List.getElem?_eq_some_iff.1 hkk).1; omega)] at this; injection this with this; rw [this]; rfl)
                rw [← Nat.add_assoc] at hq
                exact hq
              have zV2 : V.frozen? ⟨g, off + k * 9 + 8, none⟩ = false := row4.frozen _
              have row5' := row4.put (k * 9 + 8) (.int .i64 5)
              rw [ch_put x k xk hkk, ← Nat.add_assoc] at row5'
              have dd0 : (V.setCell ⟨g, off + k * 9 + 8, none⟩ (.int .i64 5)).cell? ⟨b, 0, none⟩ = some (.bool false) := by rw [World.cell?_setCell_far _ _ _ _ hne]; exact d0
              have dd1 : (V.setCell ⟨g, off + k * 9 + 8, none⟩ (.int .i64 5)).cell? ⟨b, 1, none⟩ = some (.bool true) := by rw [World.cell?_setCell_far _ _ _ _ hne]; exact d1
              have hbn : Below w.heap.size w (V.setCell ⟨g, off + k * 9 + 8, none⟩ (.int .i64 5)) := hbV.setCell (by have := hrowge; simp; omega) _

              go_wp2_with fail
              go_step3
              refine ⟨rfl, mv (x.set k xk.conf), by rw [← HN.out]; exact M1, some ⟨g, off, none⟩, c1, x.length, x.set k xk.conf, _, _, _, _, _, _, _, _, _, _, _, _, _, _, _, _, _, _, _, _, _, _, _, _, _, _, _, _, _, _, _, _, _, _, _, _, _, _, _, _, _, _, _, _, _, rfl, by simp only [List.length_set], T1, rfl, ?_, hbn⟩
              simp only [List.length_set]
              exact row5'
            · have HF1 : Hid (Forced x xi) := hFU.out rfl
              clear hUL hFU hFL ht hn rowr hd hrow
              go_wp2_with fail
              refine wp_region_f 9 71 #[.bool false, .bool false] (by kernel_rfl) rfl (by kernel_rfl) (fun ρ w' => by go_simp) ?_
              simp only [List.take_succ_cons, List.take_zero, List.drop_succ_cons, List.drop_zero]
              refine lb_move _ (by kernel_rfl) rfl ⟨_, (by ((try simp [go_sem]); (try rfl); done)), _, (by (simp only [Act.put, List.setIfInBounds_toArray, List.set_cons_zero, List.set_cons_succ]; rfl)), ?_⟩
              refine lb_move _ (by kernel_rfl) rfl ⟨_, (by ((try simp [go_sem]); (try rfl); done)), _, (by (simp only [Act.put, List.setIfInBounds_toArray, List.set_cons_zero, List.set_cons_succ]; rfl)), ?_⟩
              refine lb_val (by kernel_rfl) ⟨_, (by (intro w' hC; clear hC; (try go_simp); (try with_reducible rfl); done)), _, (by (simp only [Act.put, List.setIfInBounds_toArray, List.set_cons_zero, List.set_cons_succ]; rfl)), ?_⟩
              refine lb_val (by kernel_rfl) ⟨_, (by (intro w' hC; (obtain ⟨a0, a1, a2, a3, a4, a5, a6, a7, a8⟩ := at1.below hgb hC); clear hC; (try go_simp); (try with_reducible rfl); done)), _, (by (simp only [Act.put, List.setIfInBounds_toArray, List.set_cons_zero, List.set_cons_succ]; rfl)), ?_⟩
              refine lb_move _ (by kernel_rfl) rfl ⟨_, (by ((try simp [go_sem]); (try rfl); done)), _, (by (simp only [Act.put, List.setIfInBounds_toArray, List.set_cons_zero, List.set_cons_succ]; rfl)), ?_⟩
              refine lb_move _ (by kernel_rfl) rfl ⟨_, (by ((try simp [go_sem]); (try rfl); done)), _, (by (simp only [Act.put, List.setIfInBounds_toArray, List.set_cons_zero, List.set_cons_succ]; rfl)), ?_⟩
              refine lb_val (by kernel_rfl) ⟨_, (by (intro w' hC; clear hC; (try go_simp); (try with_reducible rfl); done)), _, (by (simp only [Act.put, List.setIfInBounds_toArray, List.set_cons_zero, List.set_cons_succ]; rfl)), ?_⟩
              refine lb_val (by kernel_rfl) ⟨_, (by (intro w' hC; (obtain ⟨c0, c1, c2, c3, c4, c5, c6, c7, c8⟩ := at2.below hgb hC); clear hC; (try go_simp); (try with_reducible rfl); done)), _, (by (simp only [Act.put, List.setIfInBounds_toArray, List.set_cons_zero, List.set_cons_succ]; rfl)), ?_⟩
              refine lb_call (by kernel_rfl) (fun w' hC => HC.out _) (by (intro w'; go_simp; done)) ⟨_, (by (simp only [Act.put, List.setIfInBounds_toArray, List.set_cons_zero, List.set_cons_succ]; rfl)), ?_⟩
              refine .nil ?_
              simp only [Act.put, List.setIfInBounds_toArray, List.set_cons_zero, List.set_cons_succ]
              rintro b w2 ⟨hb3, hge, hbl⟩
              have e0 := hbl.cell 0
              have e1 := hbl.cell 1
              have f0 := hbl.frozen 0
              have f1 := hbl.frozen 1
              obtain ⟨b2, k2⟩ := side_two (x' := .bool true) (y' := .bool false) hbl
              have hne : ¬ g = b := by omega
              have hne2 : ¬ b = g := by omega
              have row4 := (HR.out.below hb3).fr k2 (fun g' hg' e => by injection hg' with hg'; exact hne (hg'.trans e))
              have hb4 : Below w1.heap.size w1 ((w2.setCell ⟨b, 0, none⟩ (.bool true)).setCell ⟨b, 1, none⟩ (.bool false)) := (hb2.trans (hb3.mono hb2.size)).trans (k2.below (by have := hb2.size; have := hb3.size; omega) (fun k' hk' e => by have := hb2.size; omega))
              have d0 : ((w2.setCell ⟨b, 0, none⟩ (.bool true)).setCell ⟨b, 1, none⟩ (.bool false)).cell? ⟨b, 0, none⟩ = some (.bool true) := b2.cell 0
              have d1 : ((w2.setCell ⟨b, 0, none⟩ (.bool true)).setCell ⟨b, 1, none⟩ (.bool false)).cell? ⟨b, 1, none⟩ = some (.bool false) := b2.cell 1
              have hsz : w2.heap.size ≤ ((w2.setCell ⟨b, 0, none⟩ (.bool true)).setCell ⟨b, 1, none⟩ (.bool false)).heap.size := k2.size
              clear b2 k2 hbl
              rename_i K hK _
              have HK := Lib.hid hK
              have D0 := Lib.hid d0
              have D1 := Lib.hid d1
              clear hK d0 d1
              go_wp2_with fail
              clear e0 e1 f0 f1
              generalize ((w2.setCell ⟨b, 0, none⟩ (.bool true)).setCell ⟨b, 1, none⟩ (.bool false)) = V at *
              have d0 := D0.out
              have d1 := D1.out
              clear D0 D1
              refine HK.out _ _ ?_
              clear HK
              have hbV := hb.trans (hb4.mono hb.size)
              have hrowge : w.heap.size ≤ g := (row4.lt g rfl).1
              have hkk := HY.out
              have hii := HX.out
              obtain ⟨T1, L1, M1⟩ := Turns.set_le HT.out (Le.refl x) hii hii HF1.out
              have qV2 : V.cell? ⟨g, off + i * 9 + 8, none⟩ = some (.int .i64 xi.v) := by
                have hq := row4.cell (g := g) (off := off) (j := i * 9 + 8) (u := .int .i64 xi.v) (by rw [flat_get (k := 9) ch_len x i 8 (by have := (List.getElem?_eq_some_iff.1 hii).1; omega) (by omega)]; have := hii; rw [List.getElem?_eq_getElem (by have := (List.getElem?_eq_some_iff.1 hii).1; omega)] at this; injection this with this; rw [this]; rfl)
                rw [← Nat.add_assoc] at hq
                exact hq
              have zV2 : V.frozen? ⟨g, off + i * 9 + 8, none⟩ = false := row4.frozen _
              have row5' := row4.put (i * 9 + 8) (.int .i64 5)
              rw [ch_put x i xi hii, ← Nat.add_assoc] at row5'
              have dd0 : (V.setCell ⟨g, off + i * 9 + 8, none⟩ (.int .i64 5)).cell? ⟨b, 0, none⟩ = some (.bool true) := by rw [World.cell?_setCell_far _ _ _ _ hne]; exact d0
              have dd1 : (V.setCell ⟨g, off + i * 9 + 8, none⟩ (.int .i64 5)).cell? ⟨b, 1, none⟩ = some (.bool false) := by rw [World.cell?_setCell_far _ _ _ _ hne]; exact d1
              have hbn : Below w.heap.size w (V.setCell ⟨g, off + i * 9 + 8, none⟩ (.int .i64 5)) := hbV.setCell (by have := hrowge; simp; omega) _

              go_wp2_with fail
              go_step3
              refine ⟨rfl, mv (x.set i xi.conf), by rw [← HN.out]; exact M1, some ⟨g, off, none⟩, c1, x.length, x.set i xi.conf, _, _, _, _, _, _, _, _, _, _, _, _, _, _, _, _, _, _, _, _, _, _, _, _, _, _, _, _, _, _, _, _, _, _, _, _, _, _, _, _, _, _, _, _, _, rfl, by simp only [List.length_set], T1, rfl, ?_, hbn⟩
              simp only [List.length_set]
              exact row5'
            · have HF1 : Hid (Forced x xi) := hFU.out rfl
              have HF2 : Hid (Forced x xk) := hFL.out rfl
              clear hUL hFU hFL ht hn rowr hd hrow
              go_wp2_with fail
              refine wp_region_f 9 71 #[.bool false, .bool false] (by kernel_rfl) rfl (by kernel_rfl) (fun ρ w' => by go_simp) ?_
              simp only [List.take_succ_cons, List.take_zero, List.drop_succ_cons, List.drop_zero]
              refine lb_move _ (by kernel_rfl) rfl ⟨_, (by ((try simp [go_sem]); (try rfl); done)), _, (by (simp only [Act.put, List.setIfInBounds_toArray, List.set_cons_zero, List.set_cons_succ]; rfl)), ?_⟩
              refine lb_move _ (by kernel_rfl) rfl ⟨_, (by ((try simp [go_sem]); (try rfl); done)), _, (by (simp only [Act.put, List.setIfInBounds_toArray, List.set_cons_zero, List.set_cons_succ]; rfl)), ?_⟩
              refine lb_val (by kernel_rfl) ⟨_, (by (intro w' hC; clear hC; (try go_simp); (try with_reducible rfl); done)), _, (by (simp only [Act.put, List.setIfInBounds_toArray, List.set_cons_zero, List.set_cons_succ]; rfl)), ?_⟩
              refine lb_val (by kernel_rfl) ⟨_, (by (intro w' hC; (obtain ⟨a0, a1, a2, a3, a4, a5, a6, a7, a8⟩ := at1.below hgb hC); clear hC; (try go_simp); (try with_reducible rfl); done)), _, (by (simp only [Act.put, List.setIfInBounds_toArray, List.set_cons_zero, List.set_cons_succ]; rfl)), ?_⟩
              refine lb_move _ (by kernel_rfl) rfl ⟨_, (by ((try simp [go_sem]); (try rfl); done)), _, (by (simp only [Act.put, List.setIfInBounds_toArray, List.set_cons_zero, List.set_cons_succ]; rfl)), ?_⟩
              refine lb_move _ (by kernel_rfl) rfl ⟨_, (by ((try simp [go_sem]); (try rfl); done)), _, (by (simp only [Act.put, List.setIfInBounds_toArray, List.set_cons_zero, List.set_cons_succ]; rfl)), ?_⟩
              refine lb_val (by kernel_rfl) ⟨_, (by (intro w' hC; clear hC; (try go_simp); (try with_reducible rfl); done)), _, (by (simp only [Act.put, List.setIfInBounds_toArray, List.set_cons_zero, List.set_cons_succ]; rfl)), ?_⟩
              refine lb_val (by kernel_rfl) ⟨_, (by (intro w' hC; (obtain ⟨c0, c1, c2, c3, c4, c5, c6, c7, c8⟩ := at2.below hgb hC); clear hC; (try go_simp); (try with_reducible rfl); done)), _, (by (simp only [Act.put, List.setIfInBounds_toArray, List.set_cons_zero, List.set_cons_succ]; rfl)), ?_⟩
              refine lb_call (by kernel_rfl) (fun w' hC => HC.out _) (by (intro w'; go_simp; done)) ⟨_, (by (simp only [Act.put, List.setIfInBounds_toArray, List.set_cons_zero, List.set_cons_succ]; rfl)), ?_⟩
              refine .nil ?_
              simp only [Act.put, List.setIfInBounds_toArray, List.set_cons_zero, List.set_cons_succ]
              rintro b w2 ⟨hb3, hge, hbl⟩
              have e0 := hbl.cell 0
              have e1 := hbl.cell 1
              have f0 := hbl.frozen 0
              have f1 := hbl.frozen 1
              obtain ⟨b2, k2⟩ := side_two (x' := .bool true) (y' := .bool true) hbl
              have hne : ¬ g = b := by omega
              have hne2 : ¬ b = g := by omega
              have row4 := (HR.out.below hb3).fr k2 (fun g' hg' e => by injection hg' with hg'; exact hne (hg'.trans e))
              have hb4 : Below w1.heap.size w1 ((w2.setCell ⟨b, 0, none⟩ (.bool true)).setCell ⟨b, 1, none⟩ (.bool true)) := (hb2.trans (hb3.mono hb2.size)).trans (k2.below (by have := hb2.size; have := hb3.size; omega) (fun k' hk' e => by have := hb2.size; omega))
              have d0 : ((w2.setCell ⟨b, 0, none⟩ (.bool true)).setCell ⟨b, 1, none⟩ (.bool true)).cell? ⟨b, 0, none⟩ = some (.bool true) := b2.cell 0
              have d1 : ((w2.setCell ⟨b, 0, none⟩ (.bool true)).setCell ⟨b, 1, none⟩ (.bool true)).cell? ⟨b, 1, none⟩ = some (.bool true) := b2.cell 1
              have hsz : w2.heap.size ≤ ((w2.setCell ⟨b, 0, none⟩ (.bool true)).setCell ⟨b, 1, none⟩ (.bool true)).heap.size := k2.size
              clear b2 k2 hbl
              rename_i K hK _
              have HK := Lib.hid hK
              have D0 := Lib.hid d0
              have D1 := Lib.hid d1
              clear hK d0 d1
              go_wp2_with fail
              clear e0 e1 f0 f1
              generalize ((w2.setCell ⟨b, 0, none⟩ (.bool true)).setCell ⟨b, 1, none⟩ (.bool true)) = V at *
              have d0 := D0.out
              have d1 := D1.out
              clear D0 D1
              refine HK.out _ _ ?_
              clear HK
              have hbV := hb.trans (hb4.mono hb.size)
              have hrowge : w.heap.size ≤ g := (row4.lt g rfl).1
              have hkk := HY.out
              have hii := HX.out
              obtain ⟨T1, L1, M1⟩ := Turns.set_le HT.out (Le.refl x) hii hii HF1.out
              have qV2 : V.cell? ⟨g, off + i * 9 + 8, none⟩ = some (.int .i64 xi.v) := by
                have hq := row4.cell (g := g) (off := off) (j := i * 9 + 8) (u := .int .i64 xi.v) (by rw [flat_get (k := 9) ch_len x i 8 (by have := (List.getElem?_eq_some_iff.1 hii).1; omega) (by omega)]; have := hii; rw [List.getElem?_eq_getElem (by have := (List.getElem?_eq_some_iff.1 hii).1; omega)] at this; injection this with this; rw [this]; rfl)
                rw [← Nat.add_assoc] at hq
                exact hq
              have zV2 : V.frozen? ⟨g, off + i * 9 + 8, none⟩ = false := row4.frozen _
              have row5' := row4.put (i * 9 + 8) (.int .i64 5)
              rw [ch_put x i xi hii, ← Nat.add_assoc] at row5'
              have ed0 : (V.setCell ⟨g, off + i * 9 + 8, none⟩ (.int .i64 5)).cell? ⟨b, 0, none⟩ = some (.bool true) := by rw [World.cell?_setCell_far _ _ _ _ hne]; exact d0
              have ed1 : (V.setCell ⟨g, off + i * 9 + 8, none⟩ (.int .i64 5)).cell? ⟨b, 1, none⟩ = some (.bool true) := by rw [World.cell?_setCell_far _ _ _ _ hne]; exact d1
              have hbm : Below w.heap.size w (V.setCell ⟨g, off + i * 9 + 8, none⟩ (.int .i64 5)) := hbV.setCell (by have := hrowge; simp; omega) _

              have hxl5 : (x.set i xi.conf).length = x.length := List.length_set
              rw [← hxl5] at row5'
              obtain ⟨yk, hyk⟩ : ∃ y, (x.set i xi.conf)[k]? = some y := ⟨_, List.getElem?_eq_getElem (by rw [hxl5]; exact hlk)⟩
              obtain ⟨T2, L2, M2⟩ := Turns.set_le T1 L1 hkk hyk HF2.out
              have HT2 := Lib.hid T2
              have HM2 := Lib.hid M2
              clear T1 L1 M1 T2 L2 M2
              have qV3 : (V.setCell ⟨g, off + i * 9 + 8, none⟩ (.int .i64 5)).cell? ⟨g, off + k * 9 + 8, none⟩ = some (.int .i64 yk.v) := by
                have hq := row5'.cell (g := g) (off := off) (j := k * 9 + 8) (u := .int .i64 yk.v) (by rw [flat_get (k := 9) ch_len (x.set i xi.conf) k 8 (by have := (List.getElem?_eq_some_iff.1 hyk).1; omega) (by omega)]; have := hyk; rw [List.getElem?_eq_getElem (by have := (List.getElem?_eq_some_iff.1 hyk).1; omega)] at this; injection this with this; rw [this]; rfl)
                rw [← Nat.add_assoc] at hq
                exact hq
              have zV3 : (V.setCell ⟨g, off + i * 9 + 8, none⟩ (.int .i64 5)).frozen? ⟨g, off + k * 9 + 8, none⟩ = false := row5'.frozen _
              have row6' := row5'.put (k * 9 + 8) (.int .i64 5)
              rw [ch_put (x.set i xi.conf) k yk hyk, ← Nat.add_assoc] at row6'
              have dd0 : ((V.setCell ⟨g, off + i * 9 + 8, none⟩ (.int .i64 5)).setCell ⟨g, off + k * 9 + 8, none⟩ (.int .i64 5)).cell? ⟨b, 0, none⟩ = some (.bool true) := by rw [World.cell?_setCell_far _ _ _ _ hne]; exact ed0
              have dd1 : ((V.setCell ⟨g, off + i * 9 + 8, none⟩ (.int .i64 5)).setCell ⟨g, off + k * 9 + 8, none⟩ (.int .i64 5)).cell? ⟨b, 1, none⟩ = some (.bool true) := by rw [World.cell?_setCell_far _ _ _ _ hne]; exact ed1
              have hbn : Below w.heap.size w ((V.setCell ⟨g, off + i * 9 + 8, none⟩ (.int .i64 5)).setCell ⟨g, off + k * 9 + 8, none⟩ (.int .i64 5)) := hbm.setCell (by have := hrowge; simp; omega) _

              have HR6 := Lib.hid row6'
              clear row6' row5' hyk hxl5
              go_wp2_with fail
              go_step3
              refine ⟨rfl, mv ((x.set i xi.conf).set k yk.conf), by rw [← HN.out]; exact HM2.out, some ⟨g, off, none⟩, c1, x.length, (x.set i xi.conf).set k yk.conf, _, _, _, _, _, _, _, _, _, _, _, _, _, _, _, _, _, _, _, _, _, _, _, _, _, _, _, _, _, _, _, _, _, _, _, _, _, _, _, _, _, _, _, _, _, rfl, by simp only [List.length_set], HT2.out, rfl, ?_, hbn⟩
              have HR7 := HR6.out
              simp only [List.length_set] at HR7 ⊢
              exact HR7
          · have e : k = x.length := by omega
            subst e
            have HD : Hid (∀ (j k : Nat) (a b : CV), j < i + 1 → x[j]? = some a → x[k]? = some b → upB a b = false ∧ lowB a b = false) := fun j k' a b hj ha hb' => by
              rcases Nat.lt_or_ge j i with h1 | h1
              · exact hd.out j k' a b h1 ha hb'
              · obtain rfl : j = i := by omega
                rw [HX.out] at ha
                injection ha with ha
                rw [← ha]
                exact hdk.out k' b (List.getElem?_eq_some_iff.1 hb').1 hb'
            clear hdk hd
            go_wp2_with fail
            go_roundw
            case rel => exact ⟨i + 1, hlt, by go_num, HD.out, hb2⟩
            case measure => simp [intOf]; omega
      · have e : i = x.length := by omega
        subst e
        go_wp2_with fail
        simp only [Exit.jump]
        go_ret
        exact ⟨A1, c1, x, rfl, ⟨ht, closed_of fun j k a b ha hb' => hd.out j k a b (List.getElem?_eq_some_iff.1 ha).1 ha hb'⟩, hrow.below hb1, hb.trans (hb1.mono hb.size)⟩
  · intro hpass
    have hpH := Lib.hid hpass
    clear hpass
    go_wp2_with fail
    refine (cloneC_any A c l Z w h.rd hlen).mono ?_
    rintro e w1 ⟨A1, c1, rfl, hrow, hb⟩
    go_wp2_with fail
    go_step3
    rename_i K hK
    exact hK _ _ (hpH.out _ _ _ ⟨A1, c1, l.length, l, _, _, _, _, _, _, _, _, _, _, _, _, _, _, _, _, _, _, _, _, _, _, _, _, _, _, _, _, _, _, _, _, _, _, _, _, _, _, _, _, _, _, _, _, _, rfl, rfl, .none, rfl, hrow, hb⟩)
theorem close_any (A : Option Addr) (c : Nat) (l : List CV) (Z : Nat → Prop) (w : World) (h : Chs w Z A l) (hlen : l.length ≤ 1000000) :
    Calls Try.prog 37 #[.slice A l.length c] w fun e w' => ∃ (A' : Option Addr) (c' : Nat) (x : List CV), e = .returned (.slice A' x.length c') ∧ Closes l x ∧ Rd w' (fun b => w.heap.size ≤ b) 9 A' x.length (x.flatMap CV.cells) ∧ Below w.heap.size w w' :=
  (close_row A c l Z w h hlen).mono fun _ _ ⟨A', c', x, he, hx, hr, hb⟩ => ⟨A', c', x, he, hx, hr.rd.mono (fun b _ hz => (hr.lt b hz).1), hb⟩
end Go.Proofs.Ytffimpjjdhnajaa
