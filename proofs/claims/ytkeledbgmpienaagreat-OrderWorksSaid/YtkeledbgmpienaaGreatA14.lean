/- tenderref26.Close. -/
import Derived.Test.YtkeledbgmpienaaGreatA13
import Derived.Deep.LoopGhost

namespace Go.Proofs.YtkeledbgmpienaaGreat
open Go.RowKit Go.WideShapes Go.ChangeShapes Go.ChangeAt

/-- what holds of the next row while a round goes on over x -/
structure RS (l x nx : List CV) (more : Bool) : Prop where
  len : nx.length = x.length
  t : Turns l nx
  le : Le x nx
  no : more = false → nx = x
  yes : more = true → mv nx < mv x
theorem RS.start {l x : List CV} (h : Turns l x) : RS l x x false := ⟨rfl, h, Le.refl x, fun _ => rfl, fun h => (by cases h)⟩
theorem RS.put {l x nx : List CV} {more : Bool} {m : Nat} {a b : CV} (h : RS l x nx more) (ha : x[m]? = some a) (hb : nx[m]? = some b) (hf : Forced x a) : RS l x (nx.set m b.conf) true := by
  obtain ⟨h1, h2, h3⟩ := Turns.set_le h.t h.le ha hb hf
  exact ⟨by rw [List.length_set]; exact h.len, h1, h2, fun h => (by cases h), fun _ => h3⟩
theorem Row.cell8 {w : World} {base g off n c : Nat} {x : List CV} (h : Row w base 47 9 (some ⟨g, off, none⟩) n c (x.flatMap CV.cells)) {i : Nat} {a : CV} (ha : x[i]? = some a) :
    w.cell? ⟨g, off + i * 9 + 8, none⟩ = some (.int .i64 a.v) := by
  obtain ⟨hi, rfl⟩ := List.getElem?_eq_some_iff.1 ha
  have hq := h.cell (g := g) (off := off) (j := i * 9 + 8) (u := .int .i64 x[i].v) (by rw [flat_get (k := 9) ch_len x i 8 hi (by omega)]; rfl)
  rw [← Nat.add_assoc] at hq
  exact hq
theorem Row.put8 {w : World} {base g off n c : Nat} {x : List CV} (h : Row w base 47 9 (some ⟨g, off, none⟩) n c (x.flatMap CV.cells)) {i : Nat} {a : CV} (ha : x[i]? = some a) :
    Row (w.setCell ⟨g, off + i * 9 + 8, none⟩ (.int .i64 5)) base 47 9 (some ⟨g, off, none⟩) n c ((x.set i a.conf).flatMap CV.cells) := by
  have h1 := h.put (i * 9 + 8) (.int .i64 5)
  rw [ch_put x i a ha, ← Nat.add_assoc] at h1
  exact h1
theorem Row.nothing (w : World) (t : TypeId) (size : Nat) : Row (w.alloc (.cells #[] t)) w.heap.size t size (some ⟨w.heap.size, 0, none⟩) 0 0 [] :=
  ⟨by simp, Nat.le_refl _, by simp [maxLen], fun h => (by cases h), fun a ha => by
    injection ha with ha
    subst ha
    exact ⟨w.heap.size, 0, _, rfl, Nat.le_refl _, Blk.new w _ _, by simp, by simp⟩⟩
theorem below_nothing {w w1 : World} {t : TypeId} {row : Option Nat} (h : (w.alloc (.cells #[] t)).grownBy w1 row) (hr : ∀ k, row = some k → w.heap.size ≤ k) : Below w.heap.size w w1 := by
  have hf : Fr (fun k => w.heap.size ≤ k) (w.alloc (.cells #[] t)) w1 := Fr.of_grown h (fun k hk e => hr k e)
  exact ((Below.refl _ _).alloc (Nat.le_refl _) _).trans (hf.below (by simp) (fun k hk e => by omega))

set_option maxRecDepth 100000 in
set_option maxHeartbeats 4000000 in
theorem closeR_row (A : Option Addr) (c : Nat) (l : List CV) (Z : Nat → Prop) (w : World) (h : Chs w Z A l) (hlen : l.length ≤ 1000000) :
    Calls Tryz.prog 12 #[.slice A l.length c] w fun e w' => ∃ (A' : Option Addr) (c' : Nat) (x : List CV), e = .returned (.slice A' x.length c') ∧ Closes l x ∧ Row w' w.heap.size 47 9 A' x.length c' (x.flatMap CV.cells) ∧ Below w.heap.size w w' := by
  obtain ⟨i0, hi0, hz0, hz1, hz2⟩ := info_parts ch_info
  have hp : ∀ o : CV, o.p ∈ l.map CV.p → o.p.size ≤ 140737488355328 := fun o ho => by
    obtain ⟨q, hq, e⟩ := List.mem_map.1 ho
    rw [← e]
    exact h.p q hq
  have HR := Lib.hid (h.rd.alloc (.cells #[] 47))
  have HW := Lib.hid (Row.nothing w 47 9)
  have HC := Lib.hid (ch_one l)
  go_enter Tryz.func12, Tryz.ntmps12
  go_wp2_with (at_builtin; refine wpList_append_row _ rfl (.tmp 8) (.tmp 9) 42 rfl w.heap.size 47 i0 _ 9 72 Tryz.underlying42 hi0 hz0 hz1 hz2 rfl (by omega) rfl HW.out rfl HR.out HC.out (by simp only [maxLen]; omega) (by omega) (by simp) ?_; intro A1 c1 w1 h1 h2 h3; rw [List.nil_append, Nat.zero_add] at h1)
  have hb1 := below_nothing h2 (fun k hk => by injection hk with hk; exact Nat.le_of_eq hk)
  clear h2 h3 HR HW HC
  go_loopg [3] (mv l) (fun gk ov wr => ∃ (A1 : Option Addr) (c1 : Nat) (x : List CV), ov = .slice A1 l.length c1 ∧ x.length = l.length ∧ Turns l x ∧ mv x = gk ∧ Row wr w.heap.size 47 9 A1 l.length c1 (x.flatMap CV.cells) ∧ Below w.heap.size w wr)
  case atStart => exact ⟨A1, c1, l, rfl, rfl, .none, rfl, h1, hb1⟩
  case round =>
    clear h1 hb1
    obtain ⟨A1, c1, x, rfl, hxl, ht, hmv, hrow, hb⟩ := hrel
    obtain ⟨wo, rfl⟩ : ∃ wo : World, wo = wr := ⟨_, rfl⟩
    have hso := hb.size
    have hpx : ∀ (i : Nat) (a : CV), x[i]? = some a → a.p.size ≤ 140737488355328 := fun i a ha => hp a (ht.path ha)
    have HPX := Lib.hid hpx
    clear hpx hp
    rw [← hxl] at hlen ⊢
    rw [← hxl] at hrow
    have HR := Lib.hid (hrow.rd.alloc (.cells #[] 47))
    have HW := Lib.hid (Row.nothing wo 47 9)
    have HC := Lib.hid (ch_one x)
    have HXL := Lib.hid hxl
    have HT := Lib.hid ht
    have HMV := Lib.hid hmv
    have HROW := Lib.hid hrow
    clear hxl ht hmv hrow
    go_wp2_with (at_builtin; refine wpList_append_row _ rfl (.tmp 11) (.tmp 12) 42 rfl wo.heap.size 47 i0 _ 9 72 Tryz.underlying42 hi0 hz0 hz1 hz2 rfl (by omega) rfl HW.out rfl HR.out HC.out (by simp only [maxLen]; omega) (by omega) (by simp) ?_; intro A2 c2 w2 h1 h2 h3; rw [List.nil_append, Nat.zero_add] at h1)
    have hb2 := below_nothing h2 (fun k hk => by injection hk with hk; exact Nat.le_of_eq hk)
    clear h2 h3 HR HW HC
    have hs2 := hb2.size
    have HX2 : Hid (∀ wr, Fr (fun k => ablk A2 = some k) w2 wr → Row wr w.heap.size 47 9 A1 x.length c1 (x.flatMap CV.cells)) := fun wr hfr =>
      (HROW.out.below hb2).fr hfr (fun g hg e => by have h5 := (HROW.out.lt g hg).2; have h6 := (h1.lt g e).1; omega)
    have HF2 : Hid (∀ wr, Fr (fun k => ablk A2 = some k) w2 wr → Below w.heap.size w wr) := fun wr hfr =>
      (hb.trans (hb2.mono hso)).trans (hfr.below (by omega) (fun k hk e => by have h6 := (h1.lt k e).1; omega))
    have HA1 := Lib.hid (fun g hg => (HROW.out.lt g hg).2)
    clear HROW hb2
    go_loopw [5, 6] (fun mv5 iv wr => ∃ (more : Bool) (i : Nat) (nx : List CV), mv5 = .bool more ∧ iv = .int .i64 (i : Int) ∧ i ≤ x.length ∧ Hid (RS l x nx more) ∧ Hid (more = false → ∀ (j k : Nat) (a b : CV), j < i → x[j]? = some a → x[k]? = some b → upB a b = false ∧ lowB a b = false) ∧ Row wr wo.heap.size 47 9 A2 x.length c2 (nx.flatMap CV.cells) ∧ Fr (fun k => ablk A2 = some k) w2 wr) (fun _ iv _ => x.length - (intOf iv).toNat)
    case atStart => exact ⟨false, 0, x, rfl, rfl, Nat.zero_le _, RS.start HT.out, fun _ j k a b hj => absurd hj (Nat.not_lt_zero _), h1, Fr.refl _ _⟩
    case round =>
      obtain ⟨more, i, nx, rfl, rfl, hi, hRS, hP, hrN, hfr⟩ := hrel
      obtain ⟨wp, rfl⟩ : ∃ wp : World, wp = wr := ⟨_, rfl⟩
      by_cases hlt : i < x.length
      · have HX := Lib.hid (show x[i]? = some x[i] from List.getElem?_eq_getElem hlt)
        generalize x[i] = xi at *
        go_wp2_with fail
        go_loopw [5, 7] (fun mv5 kv wr => ∃ (more : Bool) (k : Nat) (nx : List CV), mv5 = .bool more ∧ kv = .int .i64 (k : Int) ∧ k ≤ x.length ∧ Hid (RS l x nx more) ∧ Hid (more = false → ∀ (j k : Nat) (a b : CV), j < i → x[j]? = some a → x[k]? = some b → upB a b = false ∧ lowB a b = false) ∧ Hid (more = false → ∀ (k' : Nat) (b : CV), k' < k → x[k']? = some b → upB xi b = false ∧ lowB xi b = false) ∧ Row wr wo.heap.size 47 9 A2 x.length c2 (nx.flatMap CV.cells) ∧ Fr (fun k => ablk A2 = some k) w2 wr) (fun _ kv _ => x.length - (intOf kv).toNat)
        case atStart => exact ⟨more, 0, nx, rfl, rfl, Nat.zero_le _, hRS, hP, fun _ k' b hk => absurd hk (Nat.not_lt_zero _), hrN, hfr⟩
        case round =>
          clear hRS hP hrN hfr
          obtain ⟨more, k, nx, rfl, rfl, hk, hRS, hP, hPk, hrN, hfr⟩ := hrel
          by_cases hlk : k < x.length
          · have HY := Lib.hid (show x[k]? = some x[k] from List.getElem?_eq_getElem hlk)
            obtain ⟨g2, o2, rfl, hg2, hg2l⟩ := hrN.addr (by omega)
            have rowx := HX2.out _ hfr
            obtain ⟨g, off, rfl, hz, hgb, at1⟩ := ch_at rowx.rd hlt
            obtain ⟨g', off', hA, hz', hgb', at2⟩ := ch_at rowx.rd hlk
            injection hA with hA
            injection hA with hA1 hA2
            subst hA1 hA2
            rw [show x[i] = xi from by have := HX.out; rw [List.getElem?_eq_getElem hlt] at this; injection this] at at1
            generalize x[k] = xk at *
            have hxp := HPX.out _ _ HX.out
            have hyp := HPX.out _ _ HY.out
            have HU := Lib.hid (fun w => upperR_any xi xk (by omega) (by omega) w)
            have HLo := Lib.hid (fun w => lowerR_any xi xk (by omega) (by omega) w)
            have hUL : Hid (upB xi xk = false → lowB xi xk = false → more = false → ∀ (k' : Nat) (b : CV), k' < k + 1 → x[k']? = some b → upB xi b = false ∧ lowB xi b = false) := fun e1 e2 e3 k' b hk' hb' => by
              rcases Nat.lt_or_ge k' k with h1 | h1
              · exact hPk.out e3 k' b h1 hb'
              · obtain rfl : k' = k := by omega
                rw [HY.out] at hb'
                injection hb' with hb'
                rw [← hb']
                exact ⟨e1, e2⟩
            have hFU : Hid (upB xi xk = true → Forced x xi) := fun e => .inl ⟨xk, List.mem_of_getElem? HY.out, e⟩
            have hFL : Hid (lowB xi xk = true → Forced x xk) := fun e => .inr ⟨xi, List.mem_of_getElem? HX.out, e⟩
            have hne : ¬ g2 = g := by have h5 := HA1.out g rfl; omega
            have hne2 : ¬ g = g2 := by omega
            clear hPk hxp hyp
            generalize upB xi xk = sp at *
            generalize lowB xi xk = sq at *
            have hfS : Hid (∀ wr, Fr (fun k => ablk (some ⟨g2, o2, none⟩) = some k) w2 wr → At9 wr g (off + i * 9) xi ∧ At9 wr g (off + k * 9) xk) := fun wv hfv => by
              have r1 := HX2.out _ hfv
              obtain ⟨q1, q2, hq, _, _, t1⟩ := ch_at r1.rd hlt
              injection hq with hq
              injection hq with hq1 hq2
              subst hq1 hq2
              obtain ⟨q1', q2', hq', _, _, t2⟩ := ch_at r1.rd hlk
              injection hq' with hq'
              injection hq' with hq1' hq2'
              subst hq1' hq2'
              have e1 : x[i] = xi := by have := HX.out; rw [List.getElem?_eq_getElem hlt] at this; injection this
              have e2 : x[k] = xk := by have := HY.out; rw [List.getElem?_eq_getElem hlk] at this; injection this
              rw [e1] at t1
              rw [e2] at t2
              exact ⟨t1, t2⟩
            have hgo : g < w2.heap.size := by have h5 := HA1.out g rfl; omega
            clear rowx at1 at2 hgb hgb'
            cases sp <;> cases sq
            · have hfW := hfr
              clear hfr
              have hPk2 : Hid (more = false → ∀ (k' : Nat) (b : CV), k' < k + 1 → x[k']? = some b → upB xi b = false ∧ lowB xi b = false) := fun e => hUL.out rfl rfl e
              clear hFU hFL hUL
              go_wp2_with fail
              refine wp_region_b 9 (by kernel_rfl) (by kernel_rfl) ?_
              simp only [List.take_succ_cons, List.take_zero, List.drop_succ_cons, List.drop_zero]
              refine lb_move _ (by kernel_rfl) rfl ⟨_, (by ((try simp [go_sem]); (try rfl); done)), _, (by (simp only [Act.put, List.setIfInBounds_toArray, List.set_cons_zero, List.set_cons_succ]; rfl)), ?_⟩
              refine lb_move _ (by kernel_rfl) rfl ⟨_, (by ((try simp [go_sem]); (try rfl); done)), _, (by (simp only [Act.put, List.setIfInBounds_toArray, List.set_cons_zero, List.set_cons_succ]; rfl)), ?_⟩
              refine lb_val (by kernel_rfl) ⟨_, (by (intro w' hC; clear hC; (try go_simp); (try with_reducible rfl); done)), _, (by (simp only [Act.put, List.setIfInBounds_toArray, List.set_cons_zero, List.set_cons_succ]; rfl)), ?_⟩
              refine lb_val (by kernel_rfl) ⟨_, (by (intro w' hC; (obtain ⟨a0, a1, a2, a3, a4, a5, a6, a7, a8⟩ := (hfS.out _ (hfW.then_below hC)).1); clear hC; (try go_simp); (try with_reducible rfl); done)), _, (by (simp only [Act.put, List.setIfInBounds_toArray, List.set_cons_zero, List.set_cons_succ]; rfl)), ?_⟩
              refine lb_move _ (by kernel_rfl) rfl ⟨_, (by ((try simp [go_sem]); (try rfl); done)), _, (by (simp only [Act.put, List.setIfInBounds_toArray, List.set_cons_zero, List.set_cons_succ]; rfl)), ?_⟩
              refine lb_move _ (by kernel_rfl) rfl ⟨_, (by ((try simp [go_sem]); (try rfl); done)), _, (by (simp only [Act.put, List.setIfInBounds_toArray, List.set_cons_zero, List.set_cons_succ]; rfl)), ?_⟩
              refine lb_val (by kernel_rfl) ⟨_, (by (intro w' hC; clear hC; (try go_simp); (try with_reducible rfl); done)), _, (by (simp only [Act.put, List.setIfInBounds_toArray, List.set_cons_zero, List.set_cons_succ]; rfl)), ?_⟩
              refine lb_val (by kernel_rfl) ⟨_, (by (intro w' hC; (obtain ⟨c0, c1, c2, c3, c4, c5, c6, c7, c8⟩ := (hfS.out _ (hfW.then_below hC)).2); clear hC; (try go_simp); (try with_reducible rfl); done)), _, (by (simp only [Act.put, List.setIfInBounds_toArray, List.set_cons_zero, List.set_cons_succ]; rfl)), ?_⟩
              refine lb_call (by kernel_rfl) (fun w' hC => HU.out _) (by (intro w'; go_simp; done)) ⟨_, (by (simp only [Act.put, List.setIfInBounds_toArray, List.set_cons_zero, List.set_cons_succ]; rfl)), ?_⟩
              refine .nil ?_
              intro w5 hb5
              have hrN := hrN.below hb5
              have hfW := hfW.then_below hb5
              clear hb5
              go_wp2_with fail
              refine wp_region_b 9 (by kernel_rfl) (by kernel_rfl) ?_
              simp only [List.take_succ_cons, List.take_zero, List.drop_succ_cons, List.drop_zero]
              refine lb_move _ (by kernel_rfl) rfl ⟨_, (by ((try simp [go_sem]); (try rfl); done)), _, (by (simp only [Act.put, List.setIfInBounds_toArray, List.set_cons_zero, List.set_cons_succ]; rfl)), ?_⟩
              refine lb_move _ (by kernel_rfl) rfl ⟨_, (by ((try simp [go_sem]); (try rfl); done)), _, (by (simp only [Act.put, List.setIfInBounds_toArray, List.set_cons_zero, List.set_cons_succ]; rfl)), ?_⟩
              refine lb_val (by kernel_rfl) ⟨_, (by (intro w' hC; clear hC; (try go_simp); (try with_reducible rfl); done)), _, (by (simp only [Act.put, List.setIfInBounds_toArray, List.set_cons_zero, List.set_cons_succ]; rfl)), ?_⟩
              refine lb_val (by kernel_rfl) ⟨_, (by (intro w' hC; (obtain ⟨a0, a1, a2, a3, a4, a5, a6, a7, a8⟩ := (hfS.out _ (hfW.then_below hC)).1); clear hC; (try go_simp); (try with_reducible rfl); done)), _, (by (simp only [Act.put, List.setIfInBounds_toArray, List.set_cons_zero, List.set_cons_succ]; rfl)), ?_⟩
              refine lb_move _ (by kernel_rfl) rfl ⟨_, (by ((try simp [go_sem]); (try rfl); done)), _, (by (simp only [Act.put, List.setIfInBounds_toArray, List.set_cons_zero, List.set_cons_succ]; rfl)), ?_⟩
              refine lb_move _ (by kernel_rfl) rfl ⟨_, (by ((try simp [go_sem]); (try rfl); done)), _, (by (simp only [Act.put, List.setIfInBounds_toArray, List.set_cons_zero, List.set_cons_succ]; rfl)), ?_⟩
              refine lb_val (by kernel_rfl) ⟨_, (by (intro w' hC; clear hC; (try go_simp); (try with_reducible rfl); done)), _, (by (simp only [Act.put, List.setIfInBounds_toArray, List.set_cons_zero, List.set_cons_succ]; rfl)), ?_⟩
              refine lb_val (by kernel_rfl) ⟨_, (by (intro w' hC; (obtain ⟨c0, c1, c2, c3, c4, c5, c6, c7, c8⟩ := (hfS.out _ (hfW.then_below hC)).2); clear hC; (try go_simp); (try with_reducible rfl); done)), _, (by (simp only [Act.put, List.setIfInBounds_toArray, List.set_cons_zero, List.set_cons_succ]; rfl)), ?_⟩
              refine lb_call (by kernel_rfl) (fun w' hC => HLo.out _) (by (intro w'; go_simp; done)) ⟨_, (by (simp only [Act.put, List.setIfInBounds_toArray, List.set_cons_zero, List.set_cons_succ]; rfl)), ?_⟩
              refine .nil ?_
              intro w5 hb5
              have hrN := hrN.below hb5
              have hfW := hfW.then_below hb5
              clear hb5
              go_wp2_with fail
              go_roundw
              case rel => exact ⟨more, k + 1, nx, rfl, by go_num, hlk, hRS, hP, hPk2, hrN, hfW⟩
              case measure => simp [intOf]; omega
            · have hfW := hfr
              clear hfr
              have hF2 : Hid (Forced x xk) := hFL.out rfl
              clear hFU hFL hUL
              go_wp2_with fail
              refine wp_region_b 9 (by kernel_rfl) (by kernel_rfl) ?_
              simp only [List.take_succ_cons, List.take_zero, List.drop_succ_cons, List.drop_zero]
              refine lb_move _ (by kernel_rfl) rfl ⟨_, (by ((try simp [go_sem]); (try rfl); done)), _, (by (simp only [Act.put, List.setIfInBounds_toArray, List.set_cons_zero, List.set_cons_succ]; rfl)), ?_⟩
              refine lb_move _ (by kernel_rfl) rfl ⟨_, (by ((try simp [go_sem]); (try rfl); done)), _, (by (simp only [Act.put, List.setIfInBounds_toArray, List.set_cons_zero, List.set_cons_succ]; rfl)), ?_⟩
              refine lb_val (by kernel_rfl) ⟨_, (by (intro w' hC; clear hC; (try go_simp); (try with_reducible rfl); done)), _, (by (simp only [Act.put, List.setIfInBounds_toArray, List.set_cons_zero, List.set_cons_succ]; rfl)), ?_⟩
              refine lb_val (by kernel_rfl) ⟨_, (by (intro w' hC; (obtain ⟨a0, a1, a2, a3, a4, a5, a6, a7, a8⟩ := (hfS.out _ (hfW.then_below hC)).1); clear hC; (try go_simp); (try with_reducible rfl); done)), _, (by (simp only [Act.put, List.setIfInBounds_toArray, List.set_cons_zero, List.set_cons_succ]; rfl)), ?_⟩
              refine lb_move _ (by kernel_rfl) rfl ⟨_, (by ((try simp [go_sem]); (try rfl); done)), _, (by (simp only [Act.put, List.setIfInBounds_toArray, List.set_cons_zero, List.set_cons_succ]; rfl)), ?_⟩
              refine lb_move _ (by kernel_rfl) rfl ⟨_, (by ((try simp [go_sem]); (try rfl); done)), _, (by (simp only [Act.put, List.setIfInBounds_toArray, List.set_cons_zero, List.set_cons_succ]; rfl)), ?_⟩
              refine lb_val (by kernel_rfl) ⟨_, (by (intro w' hC; clear hC; (try go_simp); (try with_reducible rfl); done)), _, (by (simp only [Act.put, List.setIfInBounds_toArray, List.set_cons_zero, List.set_cons_succ]; rfl)), ?_⟩
              refine lb_val (by kernel_rfl) ⟨_, (by (intro w' hC; (obtain ⟨c0, c1, c2, c3, c4, c5, c6, c7, c8⟩ := (hfS.out _ (hfW.then_below hC)).2); clear hC; (try go_simp); (try with_reducible rfl); done)), _, (by (simp only [Act.put, List.setIfInBounds_toArray, List.set_cons_zero, List.set_cons_succ]; rfl)), ?_⟩
              refine lb_call (by kernel_rfl) (fun w' hC => HU.out _) (by (intro w'; go_simp; done)) ⟨_, (by (simp only [Act.put, List.setIfInBounds_toArray, List.set_cons_zero, List.set_cons_succ]; rfl)), ?_⟩
              refine .nil ?_
              intro w5 hb5
              have hrN := hrN.below hb5
              have hfW := hfW.then_below hb5
              clear hb5
              go_wp2_with fail
              refine wp_region_b 9 (by kernel_rfl) (by kernel_rfl) ?_
              simp only [List.take_succ_cons, List.take_zero, List.drop_succ_cons, List.drop_zero]
              refine lb_move _ (by kernel_rfl) rfl ⟨_, (by ((try simp [go_sem]); (try rfl); done)), _, (by (simp only [Act.put, List.setIfInBounds_toArray, List.set_cons_zero, List.set_cons_succ]; rfl)), ?_⟩
              refine lb_move _ (by kernel_rfl) rfl ⟨_, (by ((try simp [go_sem]); (try rfl); done)), _, (by (simp only [Act.put, List.setIfInBounds_toArray, List.set_cons_zero, List.set_cons_succ]; rfl)), ?_⟩
              refine lb_val (by kernel_rfl) ⟨_, (by (intro w' hC; clear hC; (try go_simp); (try with_reducible rfl); done)), _, (by (simp only [Act.put, List.setIfInBounds_toArray, List.set_cons_zero, List.set_cons_succ]; rfl)), ?_⟩
              refine lb_val (by kernel_rfl) ⟨_, (by (intro w' hC; (obtain ⟨a0, a1, a2, a3, a4, a5, a6, a7, a8⟩ := (hfS.out _ (hfW.then_below hC)).1); clear hC; (try go_simp); (try with_reducible rfl); done)), _, (by (simp only [Act.put, List.setIfInBounds_toArray, List.set_cons_zero, List.set_cons_succ]; rfl)), ?_⟩
              refine lb_move _ (by kernel_rfl) rfl ⟨_, (by ((try simp [go_sem]); (try rfl); done)), _, (by (simp only [Act.put, List.setIfInBounds_toArray, List.set_cons_zero, List.set_cons_succ]; rfl)), ?_⟩
              refine lb_move _ (by kernel_rfl) rfl ⟨_, (by ((try simp [go_sem]); (try rfl); done)), _, (by (simp only [Act.put, List.setIfInBounds_toArray, List.set_cons_zero, List.set_cons_succ]; rfl)), ?_⟩
              refine lb_val (by kernel_rfl) ⟨_, (by (intro w' hC; clear hC; (try go_simp); (try with_reducible rfl); done)), _, (by (simp only [Act.put, List.setIfInBounds_toArray, List.set_cons_zero, List.set_cons_succ]; rfl)), ?_⟩
              refine lb_val (by kernel_rfl) ⟨_, (by (intro w' hC; (obtain ⟨c0, c1, c2, c3, c4, c5, c6, c7, c8⟩ := (hfS.out _ (hfW.then_below hC)).2); clear hC; (try go_simp); (try with_reducible rfl); done)), _, (by (simp only [Act.put, List.setIfInBounds_toArray, List.set_cons_zero, List.set_cons_succ]; rfl)), ?_⟩
              refine lb_call (by kernel_rfl) (fun w' hC => HLo.out _) (by (intro w'; go_simp; done)) ⟨_, (by (simp only [Act.put, List.setIfInBounds_toArray, List.set_cons_zero, List.set_cons_succ]; rfl)), ?_⟩
              refine .nil ?_
              intro w5 hb5
              have hrN := hrN.below hb5
              have hfW := hfW.then_below hb5
              clear hb5
              obtain ⟨b1, hb1⟩ : ∃ b1, nx[k]? = some b1 := ⟨_, List.getElem?_eq_getElem (by rw [hRS.out.len]; omega)⟩
              have hRS := Lib.hid (hRS.out.put HY.out hb1 hF2.out)
              have q8 := hrN.cell8 hb1
              have z8 : w5.frozen? ⟨g2, o2 + k * 9 + 8, none⟩ = false := hrN.frozen _
              have hrN := hrN.put8 hb1
              have hfW := hfW.setAt g2 (o2 + k * 9 + 8) rfl (.int .i64 5)
              have HrN := Lib.hid hrN
              have HfW := Lib.hid hfW
              clear hrN hfW hb1
              go_wp2_with fail
              clear q8 z8
              generalize w5.setCell ⟨g2, o2 + k * 9 + 8, none⟩ (.int .i64 5) = w5 at *
              have hrN := HrN.out
              have hfW := HfW.out
              clear HrN HfW
              generalize nx.set k b1.conf = nx at *
              go_roundw
              case rel => exact ⟨true, k + 1, nx, rfl, by go_num, hlk, hRS, (fun h => (by cases h)), (fun h => (by cases h)), hrN, hfW⟩
              case measure => simp [intOf]; omega
            · have hfW := hfr
              clear hfr
              have hF1 : Hid (Forced x xi) := hFU.out rfl
              clear hFU hFL hUL
              go_wp2_with fail
              refine wp_region_b 9 (by kernel_rfl) (by kernel_rfl) ?_
              simp only [List.take_succ_cons, List.take_zero, List.drop_succ_cons, List.drop_zero]
              refine lb_move _ (by kernel_rfl) rfl ⟨_, (by ((try simp [go_sem]); (try rfl); done)), _, (by (simp only [Act.put, List.setIfInBounds_toArray, List.set_cons_zero, List.set_cons_succ]; rfl)), ?_⟩
              refine lb_move _ (by kernel_rfl) rfl ⟨_, (by ((try simp [go_sem]); (try rfl); done)), _, (by (simp only [Act.put, List.setIfInBounds_toArray, List.set_cons_zero, List.set_cons_succ]; rfl)), ?_⟩
              refine lb_val (by kernel_rfl) ⟨_, (by (intro w' hC; clear hC; (try go_simp); (try with_reducible rfl); done)), _, (by (simp only [Act.put, List.setIfInBounds_toArray, List.set_cons_zero, List.set_cons_succ]; rfl)), ?_⟩
              refine lb_val (by kernel_rfl) ⟨_, (by (intro w' hC; (obtain ⟨a0, a1, a2, a3, a4, a5, a6, a7, a8⟩ := (hfS.out _ (hfW.then_below hC)).1); clear hC; (try go_simp); (try with_reducible rfl); done)), _, (by (simp only [Act.put, List.setIfInBounds_toArray, List.set_cons_zero, List.set_cons_succ]; rfl)), ?_⟩
              refine lb_move _ (by kernel_rfl) rfl ⟨_, (by ((try simp [go_sem]); (try rfl); done)), _, (by (simp only [Act.put, List.setIfInBounds_toArray, List.set_cons_zero, List.set_cons_succ]; rfl)), ?_⟩
              refine lb_move _ (by kernel_rfl) rfl ⟨_, (by ((try simp [go_sem]); (try rfl); done)), _, (by (simp only [Act.put, List.setIfInBounds_toArray, List.set_cons_zero, List.set_cons_succ]; rfl)), ?_⟩
              refine lb_val (by kernel_rfl) ⟨_, (by (intro w' hC; clear hC; (try go_simp); (try with_reducible rfl); done)), _, (by (simp only [Act.put, List.setIfInBounds_toArray, List.set_cons_zero, List.set_cons_succ]; rfl)), ?_⟩
              refine lb_val (by kernel_rfl) ⟨_, (by (intro w' hC; (obtain ⟨c0, c1, c2, c3, c4, c5, c6, c7, c8⟩ := (hfS.out _ (hfW.then_below hC)).2); clear hC; (try go_simp); (try with_reducible rfl); done)), _, (by (simp only [Act.put, List.setIfInBounds_toArray, List.set_cons_zero, List.set_cons_succ]; rfl)), ?_⟩
              refine lb_call (by kernel_rfl) (fun w' hC => HU.out _) (by (intro w'; go_simp; done)) ⟨_, (by (simp only [Act.put, List.setIfInBounds_toArray, List.set_cons_zero, List.set_cons_succ]; rfl)), ?_⟩
              refine .nil ?_
              intro w5 hb5
              have hrN := hrN.below hb5
              have hfW := hfW.then_below hb5
              clear hb5
              obtain ⟨b1, hb1⟩ : ∃ b1, nx[i]? = some b1 := ⟨_, List.getElem?_eq_getElem (by rw [hRS.out.len]; omega)⟩
              have hRS := Lib.hid (hRS.out.put HX.out hb1 hF1.out)
              have q8 := hrN.cell8 hb1
              have z8 : w5.frozen? ⟨g2, o2 + i * 9 + 8, none⟩ = false := hrN.frozen _
              have hrN := hrN.put8 hb1
              have hfW := hfW.setAt g2 (o2 + i * 9 + 8) rfl (.int .i64 5)
              have HrN := Lib.hid hrN
              have HfW := Lib.hid hfW
              clear hrN hfW hb1
              go_wp2_with fail
              clear q8 z8
              generalize w5.setCell ⟨g2, o2 + i * 9 + 8, none⟩ (.int .i64 5) = w5 at *
              have hrN := HrN.out
              have hfW := HfW.out
              clear HrN HfW
              generalize nx.set i b1.conf = nx at *
              refine wp_region_b 9 (by kernel_rfl) (by kernel_rfl) ?_
              simp only [List.take_succ_cons, List.take_zero, List.drop_succ_cons, List.drop_zero]
              refine lb_move _ (by kernel_rfl) rfl ⟨_, (by ((try simp [go_sem]); (try rfl); done)), _, (by (simp only [Act.put, List.setIfInBounds_toArray, List.set_cons_zero, List.set_cons_succ]; rfl)), ?_⟩
              refine lb_move _ (by kernel_rfl) rfl ⟨_, (by ((try simp [go_sem]); (try rfl); done)), _, (by (simp only [Act.put, List.setIfInBounds_toArray, List.set_cons_zero, List.set_cons_succ]; rfl)), ?_⟩
              refine lb_val (by kernel_rfl) ⟨_, (by (intro w' hC; clear hC; (try go_simp); (try with_reducible rfl); done)), _, (by (simp only [Act.put, List.setIfInBounds_toArray, List.set_cons_zero, List.set_cons_succ]; rfl)), ?_⟩
              refine lb_val (by kernel_rfl) ⟨_, (by (intro w' hC; (obtain ⟨a0, a1, a2, a3, a4, a5, a6, a7, a8⟩ := (hfS.out _ (hfW.then_below hC)).1); clear hC; (try go_simp); (try with_reducible rfl); done)), _, (by (simp only [Act.put, List.setIfInBounds_toArray, List.set_cons_zero, List.set_cons_succ]; rfl)), ?_⟩
              refine lb_move _ (by kernel_rfl) rfl ⟨_, (by ((try simp [go_sem]); (try rfl); done)), _, (by (simp only [Act.put, List.setIfInBounds_toArray, List.set_cons_zero, List.set_cons_succ]; rfl)), ?_⟩
              refine lb_move _ (by kernel_rfl) rfl ⟨_, (by ((try simp [go_sem]); (try rfl); done)), _, (by (simp only [Act.put, List.setIfInBounds_toArray, List.set_cons_zero, List.set_cons_succ]; rfl)), ?_⟩
              refine lb_val (by kernel_rfl) ⟨_, (by (intro w' hC; clear hC; (try go_simp); (try with_reducible rfl); done)), _, (by (simp only [Act.put, List.setIfInBounds_toArray, List.set_cons_zero, List.set_cons_succ]; rfl)), ?_⟩
              refine lb_val (by kernel_rfl) ⟨_, (by (intro w' hC; (obtain ⟨c0, c1, c2, c3, c4, c5, c6, c7, c8⟩ := (hfS.out _ (hfW.then_below hC)).2); clear hC; (try go_simp); (try with_reducible rfl); done)), _, (by (simp only [Act.put, List.setIfInBounds_toArray, List.set_cons_zero, List.set_cons_succ]; rfl)), ?_⟩
              refine lb_call (by kernel_rfl) (fun w' hC => HLo.out _) (by (intro w'; go_simp; done)) ⟨_, (by (simp only [Act.put, List.setIfInBounds_toArray, List.set_cons_zero, List.set_cons_succ]; rfl)), ?_⟩
              refine .nil ?_
              intro w5 hb5
              have hrN := hrN.below hb5
              have hfW := hfW.then_below hb5
              clear hb5
              go_wp2_with fail
              go_roundw
              case rel => exact ⟨true, k + 1, nx, rfl, by go_num, hlk, hRS, (fun h => (by cases h)), (fun h => (by cases h)), hrN, hfW⟩
              case measure => simp [intOf]; omega
            · have hfW := hfr
              clear hfr
              have hF1 : Hid (Forced x xi) := hFU.out rfl
              have hF2 : Hid (Forced x xk) := hFL.out rfl
              clear hFU hFL hUL
              go_wp2_with fail
              refine wp_region_b 9 (by kernel_rfl) (by kernel_rfl) ?_
              simp only [List.take_succ_cons, List.take_zero, List.drop_succ_cons, List.drop_zero]
              refine lb_move _ (by kernel_rfl) rfl ⟨_, (by ((try simp [go_sem]); (try rfl); done)), _, (by (simp only [Act.put, List.setIfInBounds_toArray, List.set_cons_zero, List.set_cons_succ]; rfl)), ?_⟩
              refine lb_move _ (by kernel_rfl) rfl ⟨_, (by ((try simp [go_sem]); (try rfl); done)), _, (by (simp only [Act.put, List.setIfInBounds_toArray, List.set_cons_zero, List.set_cons_succ]; rfl)), ?_⟩
              refine lb_val (by kernel_rfl) ⟨_, (by (intro w' hC; clear hC; (try go_simp); (try with_reducible rfl); done)), _, (by (simp only [Act.put, List.setIfInBounds_toArray, List.set_cons_zero, List.set_cons_succ]; rfl)), ?_⟩
              refine lb_val (by kernel_rfl) ⟨_, (by (intro w' hC; (obtain ⟨a0, a1, a2, a3, a4, a5, a6, a7, a8⟩ := (hfS.out _ (hfW.then_below hC)).1); clear hC; (try go_simp); (try with_reducible rfl); done)), _, (by (simp only [Act.put, List.setIfInBounds_toArray, List.set_cons_zero, List.set_cons_succ]; rfl)), ?_⟩
              refine lb_move _ (by kernel_rfl) rfl ⟨_, (by ((try simp [go_sem]); (try rfl); done)), _, (by (simp only [Act.put, List.setIfInBounds_toArray, List.set_cons_zero, List.set_cons_succ]; rfl)), ?_⟩
              refine lb_move _ (by kernel_rfl) rfl ⟨_, (by ((try simp [go_sem]); (try rfl); done)), _, (by (simp only [Act.put, List.setIfInBounds_toArray, List.set_cons_zero, List.set_cons_succ]; rfl)), ?_⟩
              refine lb_val (by kernel_rfl) ⟨_, (by (intro w' hC; clear hC; (try go_simp); (try with_reducible rfl); done)), _, (by (simp only [Act.put, List.setIfInBounds_toArray, List.set_cons_zero, List.set_cons_succ]; rfl)), ?_⟩
              refine lb_val (by kernel_rfl) ⟨_, (by (intro w' hC; (obtain ⟨c0, c1, c2, c3, c4, c5, c6, c7, c8⟩ := (hfS.out _ (hfW.then_below hC)).2); clear hC; (try go_simp); (try with_reducible rfl); done)), _, (by (simp only [Act.put, List.setIfInBounds_toArray, List.set_cons_zero, List.set_cons_succ]; rfl)), ?_⟩
              refine lb_call (by kernel_rfl) (fun w' hC => HU.out _) (by (intro w'; go_simp; done)) ⟨_, (by (simp only [Act.put, List.setIfInBounds_toArray, List.set_cons_zero, List.set_cons_succ]; rfl)), ?_⟩
              refine .nil ?_
              intro w5 hb5
              have hrN := hrN.below hb5
              have hfW := hfW.then_below hb5
              clear hb5
              obtain ⟨b1, hb1⟩ : ∃ b1, nx[i]? = some b1 := ⟨_, List.getElem?_eq_getElem (by rw [hRS.out.len]; omega)⟩
              have hRS := Lib.hid (hRS.out.put HX.out hb1 hF1.out)
              have q8 := hrN.cell8 hb1
              have z8 : w5.frozen? ⟨g2, o2 + i * 9 + 8, none⟩ = false := hrN.frozen _
              have hrN := hrN.put8 hb1
              have hfW := hfW.setAt g2 (o2 + i * 9 + 8) rfl (.int .i64 5)
              have HrN := Lib.hid hrN
              have HfW := Lib.hid hfW
              clear hrN hfW hb1
              go_wp2_with fail
              clear q8 z8
              generalize w5.setCell ⟨g2, o2 + i * 9 + 8, none⟩ (.int .i64 5) = w5 at *
              have hrN := HrN.out
              have hfW := HfW.out
              clear HrN HfW
              generalize nx.set i b1.conf = nx at *
              refine wp_region_b 9 (by kernel_rfl) (by kernel_rfl) ?_
              simp only [List.take_succ_cons, List.take_zero, List.drop_succ_cons, List.drop_zero]
              refine lb_move _ (by kernel_rfl) rfl ⟨_, (by ((try simp [go_sem]); (try rfl); done)), _, (by (simp only [Act.put, List.setIfInBounds_toArray, List.set_cons_zero, List.set_cons_succ]; rfl)), ?_⟩
              refine lb_move _ (by kernel_rfl) rfl ⟨_, (by ((try simp [go_sem]); (try rfl); done)), _, (by (simp only [Act.put, List.setIfInBounds_toArray, List.set_cons_zero, List.set_cons_succ]; rfl)), ?_⟩
              refine lb_val (by kernel_rfl) ⟨_, (by (intro w' hC; clear hC; (try go_simp); (try with_reducible rfl); done)), _, (by (simp only [Act.put, List.setIfInBounds_toArray, List.set_cons_zero, List.set_cons_succ]; rfl)), ?_⟩
              refine lb_val (by kernel_rfl) ⟨_, (by (intro w' hC; (obtain ⟨a0, a1, a2, a3, a4, a5, a6, a7, a8⟩ := (hfS.out _ (hfW.then_below hC)).1); clear hC; (try go_simp); (try with_reducible rfl); done)), _, (by (simp only [Act.put, List.setIfInBounds_toArray, List.set_cons_zero, List.set_cons_succ]; rfl)), ?_⟩
              refine lb_move _ (by kernel_rfl) rfl ⟨_, (by ((try simp [go_sem]); (try rfl); done)), _, (by (simp only [Act.put, List.setIfInBounds_toArray, List.set_cons_zero, List.set_cons_succ]; rfl)), ?_⟩
              refine lb_move _ (by kernel_rfl) rfl ⟨_, (by ((try simp [go_sem]); (try rfl); done)), _, (by (simp only [Act.put, List.setIfInBounds_toArray, List.set_cons_zero, List.set_cons_succ]; rfl)), ?_⟩
              refine lb_val (by kernel_rfl) ⟨_, (by (intro w' hC; clear hC; (try go_simp); (try with_reducible rfl); done)), _, (by (simp only [Act.put, List.setIfInBounds_toArray, List.set_cons_zero, List.set_cons_succ]; rfl)), ?_⟩
              refine lb_val (by kernel_rfl) ⟨_, (by (intro w' hC; (obtain ⟨c0, c1, c2, c3, c4, c5, c6, c7, c8⟩ := (hfS.out _ (hfW.then_below hC)).2); clear hC; (try go_simp); (try with_reducible rfl); done)), _, (by (simp only [Act.put, List.setIfInBounds_toArray, List.set_cons_zero, List.set_cons_succ]; rfl)), ?_⟩
              refine lb_call (by kernel_rfl) (fun w' hC => HLo.out _) (by (intro w'; go_simp; done)) ⟨_, (by (simp only [Act.put, List.setIfInBounds_toArray, List.set_cons_zero, List.set_cons_succ]; rfl)), ?_⟩
              refine .nil ?_
              intro w5 hb5
              have hrN := hrN.below hb5
              have hfW := hfW.then_below hb5
              clear hb5
              obtain ⟨b1, hb1⟩ : ∃ b1, nx[k]? = some b1 := ⟨_, List.getElem?_eq_getElem (by rw [hRS.out.len]; omega)⟩
              have hRS := Lib.hid (hRS.out.put HY.out hb1 hF2.out)
              have q8 := hrN.cell8 hb1
              have z8 : w5.frozen? ⟨g2, o2 + k * 9 + 8, none⟩ = false := hrN.frozen _
              have hrN := hrN.put8 hb1
              have hfW := hfW.setAt g2 (o2 + k * 9 + 8) rfl (.int .i64 5)
              have HrN := Lib.hid hrN
              have HfW := Lib.hid hfW
              clear hrN hfW hb1
              go_wp2_with fail
              clear q8 z8
              generalize w5.setCell ⟨g2, o2 + k * 9 + 8, none⟩ (.int .i64 5) = w5 at *
              have hrN := HrN.out
              have hfW := HfW.out
              clear HrN HfW
              generalize nx.set k b1.conf = nx at *
              go_roundw
              case rel => exact ⟨true, k + 1, nx, rfl, by go_num, hlk, hRS, (fun h => (by cases h)), (fun h => (by cases h)), hrN, hfW⟩
              case measure => simp [intOf]; omega
          · have e : k = x.length := by omega
            subst e
            have HD : Hid (more = false → ∀ (j k : Nat) (a b : CV), j < i + 1 → x[j]? = some a → x[k]? = some b → upB a b = false ∧ lowB a b = false) := fun e3 j k' a b hj ha hb' => by
              rcases Nat.lt_or_ge j i with h1 | h1
              · exact hP.out e3 j k' a b h1 ha hb'
              · obtain rfl : j = i := by omega
                rw [HX.out] at ha
                injection ha with ha
                rw [← ha]
                exact hPk.out e3 k' b (List.getElem?_eq_some_iff.1 hb').1 hb'
            clear hPk hP
            go_wp2_with fail
            go_roundw
            case rel => exact ⟨more, i + 1, nx, rfl, by go_num, hlt, hRS, HD, hrN, hfr⟩
            case measure => simp [intOf]; omega
      · have e : i = x.length := by omega
        subst e
        cases more
        · have e2 := hRS.out.no rfl
          subst e2
          have hcl : Closes l nx := ⟨hRS.out.t, closed_of fun j k a b ha hb' => hP.out rfl j k a b (List.getElem?_eq_some_iff.1 ha).1 ha hb'⟩
          have hfin := HF2.out _ hfr
          have HCL := Lib.hid hcl
          clear hcl
          go_wp2_with fail
          go_ret
          exact ⟨A2, c2, nx, rfl, HCL.out, hrN.rebase (fun g hg => by have := (hrN.lt g hg).1; omega), hfin⟩
        · have hlx := hRS.out.len
          have hlt2 := hRS.out.yes rfl
          have hfin := HF2.out _ hfr
          have hrow3 := hrN.rebase (base' := w.heap.size) (fun g hg => by have := (hrN.lt g hg).1; omega)
          have HLX := Lib.hid hlx
          clear hlx
          go_wp2_with fail
          rw [HXL.out]
          go_roundg (mv nx)
          case measure => rw [← HMV.out]; exact hlt2
          case rel => exact ⟨A2, c2, nx, rfl, HLX.out.trans HXL.out, hRS.out.t, rfl, by rw [← HXL.out]; exact hrow3, hfin⟩
end Go.Proofs.YtkeledbgmpienaaGreat

/- Swapped ranges, told place by place; what rotation makes of them. Plain, no program. -/
namespace Go.Proofs.YtkeledbgmpienaaGreat

/-- where the value at place q was, when the ranges of n at a and b were swapped -/
def swapAt (a b n q : Nat) : Nat := if a ≤ q ∧ q < a + n then q - a + b else if b ≤ q ∧ q < b + n then q - b + a else q
theorem swap_shape {α : Type} {P U M V Q LL : List α} {a b n : Nat} (hP : P.length = a) (hU : U.length = n) (hV : V.length = n) (hb : a + n + M.length = b) (hl : LL.length = (P ++ U ++ M ++ V ++ Q).length)
    (h : ∀ q, q < LL.length → LL[q]? = (P ++ U ++ M ++ V ++ Q)[swapAt a b n q]?) : LL = P ++ V ++ M ++ U ++ Q := by
  have hl2 : (P ++ V ++ M ++ U ++ Q).length = LL.length := by rw [hl]; simp only [List.length_append]; omega
  apply List.ext_getElem?
  intro q
  by_cases hq : q < LL.length
  · rw [h q hq]
    simp only [List.length_append] at hl
    unfold swapAt
    simp only [List.getElem?_append, List.length_append]
    repeat' split
    all_goals first
      | rfl
      | (exfalso; omega)
      | (congr 1 <;> omega)
  · rw [List.getElem?_eq_none (by omega), List.getElem?_eq_none (by omega)]
/-- one more place is swapped -/
theorem swap_step {α : Type} {X LL : List α} {a b i : Nat} {x y : α} (hab : a + i < b) (hl : LL.length = X.length) (hb : b + i < X.length) (h : ∀ q, q < X.length → LL[q]? = X[swapAt a b i q]?) (hx : LL[a + i]? = some x) (hy : LL[b + i]? = some y) :
    ∀ q, q < X.length → ((LL.set (a + i) y).set (b + i) x)[q]? = X[swapAt a b (i + 1) q]? := by
  intro q hq
  have ex : X[a + i]? = some x := by
    have := h (a + i) (by omega)
    rw [hx] at this
    unfold swapAt at this
    rw [if_neg (by omega), if_neg (by omega)] at this
    exact this.symm
  have ey : X[b + i]? = some y := by
    have := h (b + i) (by omega)
    rw [hy] at this
    unfold swapAt at this
    rw [if_neg (by omega), if_neg (by omega)] at this
    exact this.symm
  rw [List.getElem?_set]
  by_cases e1 : b + i = q
  · rw [if_pos e1, if_pos (by rw [List.length_set]; omega)]
    unfold swapAt
    rw [if_neg (by omega), if_pos (by omega), show q - b + a = a + i by omega, ex]
  · rw [if_neg e1, List.getElem?_set]
    by_cases e2 : a + i = q
    · rw [if_pos e2, if_pos (by omega)]
      unfold swapAt
      rw [if_pos (by omega), show q - a + b = b + i by omega, ey]
    · rw [if_neg e2, h q hq]
      unfold swapAt
      by_cases h1 : a ≤ q ∧ q < a + i
      · have g1 : a ≤ q ∧ q < a + (i + 1) := by omega
        rw [if_pos h1, if_pos g1]
      · have g1 : ¬ (a ≤ q ∧ q < a + (i + 1)) := by omega
        rw [if_neg h1, if_neg g1]
        by_cases h2 : b ≤ q ∧ q < b + i
        · have g2 : b ≤ q ∧ q < b + (i + 1) := by omega
          rw [if_pos h2, if_pos g2]
        · have g2 : ¬ (b ≤ q ∧ q < b + (i + 1)) := by omega
          rw [if_neg h2, if_neg g2]
section
variable {α : Type} {lt : α → α → Bool}
theorem SortedC.le {L : List α} (h : SortedC lt L) (hi : OrdC lt) {i j : Nat} {x y : α} (hx : L[i]? = some x) (hy : L[j]? = some y) (hij : i ≤ j) : lt y x = false := by
  obtain ⟨h1, e1⟩ := List.getElem?_eq_some_iff.1 hx
  obtain ⟨h2, e2⟩ := List.getElem?_eq_some_iff.1 hy
  by_cases e : i = j
  · subst e
    rw [← e1, ← e2]; exact hi.irr _
  · rw [← e1, ← e2]
    exact List.pairwise_iff_getElem.1 h i j h1 h2 (by omega)
/-- where two sorted rows are cut so that the first parts come ahead of the rest -/
theorem sym_split (h : OrdC lt) {L R : List α} (hL : SortedC lt L) (hR : SortedC lt R) {i j : Nat}
    (F1 : i = 0 ∨ R.length ≤ j ∨ ∃ x y, L[i - 1]? = some x ∧ R[j]? = some y ∧ lt y x = false) (F2 : L.length ≤ i ∨ j = 0 ∨ ∃ x y, L[i]? = some x ∧ R[j - 1]? = some y ∧ lt y x = true) :
    (∀ x ∈ L.take i, ∀ y ∈ R.drop j, lt y x = false) ∧ (∀ y ∈ R.take j, ∀ x ∈ L.drop i, lt y x = true) := by
  refine ⟨fun x hx y hy => ?_, fun y hy x hx => ?_⟩
  · obtain ⟨i', hi', ex⟩ := List.getElem_of_mem hx
    obtain ⟨j', hj', ey⟩ := List.getElem_of_mem hy
    rw [List.length_take] at hi'
    rw [List.length_drop] at hj'
    rw [List.getElem_take] at ex
    rw [List.getElem_drop] at ey
    rcases F1 with e | e | ⟨x0, y0, e1, e2, e3⟩
    · omega
    · omega
    · have h1 : lt x0 x = false := hL.le h (List.getElem?_eq_some_iff.2 ⟨by omega, ex⟩) e1 (by omega)
      have h2 : lt y y0 = false := hR.le h e2 (List.getElem?_eq_some_iff.2 ⟨by omega, ey⟩) (by omega)
      cases hh : lt y x
      · rfl
      · rcases h.neg _ y0 _ hh with g | g
        · rw [h2] at g; cases g
        · rcases h.neg _ x0 _ g with g | g
          · rw [e3] at g; cases g
          · rw [h1] at g; cases g
  · obtain ⟨i', hi', ex⟩ := List.getElem_of_mem hx
    obtain ⟨j', hj', ey⟩ := List.getElem_of_mem hy
    rw [List.length_drop] at hi'
    rw [List.length_take] at hj'
    rw [List.getElem_drop] at ex
    rw [List.getElem_take] at ey
    rcases F2 with e | e | ⟨x0, y0, e1, e2, e3⟩
    · omega
    · omega
    · have h1 : lt x x0 = false := hL.le h e1 (List.getElem?_eq_some_iff.2 ⟨by omega, ex⟩) (by omega)
      have h2 : lt y0 y = false := hR.le h (List.getElem?_eq_some_iff.2 ⟨by omega, ey⟩) e2 (by omega)
      rcases h.neg _ y _ e3 with g | g
      · rw [h2] at g; cases g
      · rcases h.neg _ x _ g with g | g
        · exact g
        · rw [h1] at g; cases g
/-- the merge of two sorted rows, parted -/
theorem sym_parts (h : OrdC lt) {L R : List α} (hL : SortedC lt L) (hR : SortedC lt R) {i j : Nat}
    (F1 : i = 0 ∨ R.length ≤ j ∨ ∃ x y, L[i - 1]? = some x ∧ R[j]? = some y ∧ lt y x = false) (F2 : L.length ≤ i ∨ j = 0 ∨ ∃ x y, L[i]? = some x ∧ R[j - 1]? = some y ∧ lt y x = true) :
    sortC lt (L ++ R) = sortC lt (L.take i ++ R.take j) ++ sortC lt (L.drop i ++ R.drop j) := by
  obtain ⟨h1, h2⟩ := sym_split h hL hR F1 F2
  have := stable_merge h (L1 := L.take i) (L2 := L.drop i) (R1 := R.take j) (R2 := R.drop j) (by rwa [List.take_append_drop]) (by rwa [List.take_append_drop]) h1 h2 (sortC_stable h _) (sortC_stable h _)
  rw [List.take_append_drop, List.take_append_drop] at this
  exact (this.eq h).symm
theorem sortC_sorted_eq (h : OrdC lt) {X : List α} (hs : SortedC lt X) : sortC lt X = X := ((StableOf.self hs).eq h).symm
end
end Go.Proofs.YtkeledbgmpienaaGreat

/- slices.swapRangeCmpFunc, rotateCmpFunc at changes. -/
namespace Go.Proofs.YtkeledbgmpienaaGreat
open Go.RowKit Go.WideShapes Go.ChangeShapes Go.ChangeAt


set_option maxRecDepth 100000 in
set_option maxHeartbeats 2000000 in
theorem swapRange_any (A : Option Addr) (c a b n base : Nat) (X : List CV) (w : World) (h : RowC w base A c X) (hab : a + n ≤ b) (hb : b + n ≤ X.length) (hl : X.length ≤ 1000000) :
    Calls Tryz.prog 86 #[.slice A X.length c, .int .i64 (a : Int), .int .i64 (b : Int), .int .i64 (n : Int), .func (.func 33) #[] #[]] w fun e w' => e = .returned (.tuple #[]) ∧ (∃ LL, LL.length = X.length ∧ (∀ q, q < X.length → LL[q]? = X[swapAt a b n q]?) ∧ RowC w' base A c LL) ∧ Fr (fun g => ablk A = some g) w w' := by
  have HR := Lib.hid h
  obtain ⟨N, hN⟩ : ∃ N, N = X.length := ⟨_, rfl⟩
  have HN := Lib.hid hN
  rw [← hN] at hl hb ⊢
  clear h hN
  go_enter Tryz.func86, Tryz.ntmps86
  go_wp2_with fail
  go_loopw [10] (fun iv wr => ∃ (i : Nat) (LL : List CV), i ≤ n ∧ iv = .int .i64 (i : Int) ∧ Hid (LL.length = N) ∧ Hid (∀ q, q < N → LL[q]? = X[swapAt a b i q]?) ∧ RowC wr base A c LL ∧ Fr (fun g => ablk A = some g) w wr) (fun iv _ => n - (intOf iv).toNat)
  case atStart => exact ⟨0, X, Nat.zero_le _, rfl, Lib.hid HN.out.symm, Lib.hid (fun q hq => by unfold swapAt; rw [if_neg (by omega), if_neg (by omega)]), HR.out, Fr.refl _ _⟩
  case round =>
    obtain ⟨i, LL, hi, rfl, HLN, HG, hr2, hf2⟩ := hrel
    by_cases hlt : i < n
    · obtain ⟨k1, hk1⟩ : ∃ k1 : Nat, k1 = a + i := ⟨_, rfl⟩
      obtain ⟨k2, hk2⟩ : ∃ k2 : Nat, k2 = b + i := ⟨_, rfl⟩
      have HK1 := Lib.hid hk1
      have HK2 := Lib.hid hk2
      have hwa : IntKind.i64.wrap ((a : Int) + (i : Int)) = (k1 : Int) := by rw [IntKind.wrap_i64]; omega
      have hwb : IntKind.i64.wrap ((b : Int) + (i : Int)) = (k2 : Int) := by rw [IntKind.wrap_i64]; omega
      have hi1 : k1 < LL.length := by rw [HLN.out]; omega
      have hi2 : k2 < LL.length := by rw [HLN.out]; omega
      obtain ⟨x, hg1⟩ : ∃ x, LL[k1]? = some x := ⟨_, List.getElem?_eq_getElem hi1⟩
      obtain ⟨y, hg2⟩ : ∃ y, LL[k2]? = some y := ⟨_, List.getElem?_eq_getElem hi2⟩
      have HG1 := Lib.hid (show LL[a + i]? = some x by rw [← hk1]; exact hg1)
      have HG2 := Lib.hid (show LL[b + i]? = some y by rw [← hk2]; exact hg2)
      have hz1 : (k1 : Int) < (N : Int) := by omega
      have hz2 : (k2 : Int) < (N : Int) := by omega
      have hy1 : (0 : Int) ≤ (k1 : Int) := by omega
      have hy2 : (0 : Int) ≤ (k2 : Int) := by omega
      obtain ⟨g, off, rfl, _, hgb2⟩ := hr2.addr (by omega)
      rename World => w2
      clear hk1 hk2
      go_wp2_with fail
      have hC0 : Fr (fun b => b = g) w2 w2.drew := (Fr.refl (fun b => b = g) w2).drew
      have hx9' := (hr2.get hg1).below hgb2 (Below.refl w2.heap.size w2).drew
      have hy9' := (hr2.get hg2).below hgb2 (Below.refl w2.heap.size w2).drew
      have hrd := hr2.drew
      refine wp_region_plan (.tell 0 (.tell 1 (.tell 2 (.tell 3 (.tell 4 (.tell 5 (.tell 6 (.tell 7 (.tell 8 (.tell 9 (.tell 10 (.tell 11 (.tell 12 (.tell 14 (.tell 15 (.tell 16 (.tell 17 (.tell 18 (.two 13 (.one 19 (.tell 20 (.one 21 (.tell 22 (.one 23 .done))))) 19 (.one 13 (.tell 20 (.one 21 (.tell 22 (.one 23 .done)))))))))))))))))))))))) (fun W => Fr (fun b => b = g) w2 W) _ (by kernel_rfl) (by kernel_rfl) ?_ (fun _ _ h => h)
      refine pl_val (by (simp only [List.getElem?_toArray, List.getElem?_cons_succ, List.getElem?_cons_zero]; rfl)) (by kernel_rfl) ⟨_, (by (intro w' hC; clear hC; (try go_simp); (try with_reducible rfl); done)), _, (by (simp only [Act.put, List.setIfInBounds_toArray, List.set_cons_zero, List.set_cons_succ]; rfl)), ?_⟩
      refine pl_val (by (simp only [List.getElem?_toArray, List.getElem?_cons_succ, List.getElem?_cons_zero]; rfl)) (by kernel_rfl) ⟨_, (by (intro w' hC; clear hC; (try go_simp); (try with_reducible rfl); done)), _, (by (simp only [Act.put, List.setIfInBounds_toArray, List.set_cons_zero, List.set_cons_succ]; rfl)), ?_⟩
      refine pl_val (by (simp only [List.getElem?_toArray, List.getElem?_cons_succ, List.getElem?_cons_zero]; rfl)) (by kernel_rfl) ⟨_, (by (intro w' hC; clear hC; (try go_simp); (try with_reducible rfl); done)), _, (by (simp only [Act.put, List.setIfInBounds_toArray, List.set_cons_zero, List.set_cons_succ]; rfl)), ?_⟩
      refine pl_val (by (simp only [List.getElem?_toArray, List.getElem?_cons_succ, List.getElem?_cons_zero]; rfl)) (by kernel_rfl) ⟨_, (by (intro w' hC; clear hC; (try go_simp); (try with_reducible rfl); done)), _, (by (simp only [Act.put, List.setIfInBounds_toArray, List.set_cons_zero, List.set_cons_succ]; rfl)), ?_⟩
      refine pl_val (by (simp only [List.getElem?_toArray, List.getElem?_cons_succ, List.getElem?_cons_zero]; rfl)) (by kernel_rfl) ⟨_, (by (intro w' hC; clear hC; (try go_simp); (try with_reducible rfl); done)), _, (by (simp only [Act.put, List.setIfInBounds_toArray, List.set_cons_zero, List.set_cons_succ]; rfl)), ?_⟩
      refine pl_val (by (simp only [List.getElem?_toArray, List.getElem?_cons_succ, List.getElem?_cons_zero]; rfl)) (by kernel_rfl) ⟨_, (by (intro w' hC; clear hC; (try go_simp); (try with_reducible rfl); done)), _, (by (simp only [Act.put, List.setIfInBounds_toArray, List.set_cons_zero, List.set_cons_succ]; rfl)), ?_⟩
      refine pl_val (by (simp only [List.getElem?_toArray, List.getElem?_cons_succ, List.getElem?_cons_zero]; rfl)) (by kernel_rfl) ⟨_, (by (intro w' hC; clear hC; (try go_simp); (try with_reducible rfl); done)), _, (by (simp only [Act.put, List.setIfInBounds_toArray, List.set_cons_zero, List.set_cons_succ]; rfl)), ?_⟩
      refine pl_val (by (simp only [List.getElem?_toArray, List.getElem?_cons_succ, List.getElem?_cons_zero]; rfl)) (by kernel_rfl) ⟨_, (by (intro w' hC; clear hC; (try go_simp); (try with_reducible rfl); done)), _, (by (simp only [Act.put, List.setIfInBounds_toArray, List.set_cons_zero, List.set_cons_succ]; rfl)), ?_⟩
      refine pl_val (by (simp only [List.getElem?_toArray, List.getElem?_cons_succ, List.getElem?_cons_zero]; rfl)) (by kernel_rfl) ⟨_, (by (intro w' hC; clear hC; (try go_simp); (try with_reducible rfl); done)), _, (by (simp only [Act.put, List.setIfInBounds_toArray, List.set_cons_zero, List.set_cons_succ]; rfl)), ?_⟩
      refine pl_val (by (simp only [List.getElem?_toArray, List.getElem?_cons_succ, List.getElem?_cons_zero]; rfl)) (by kernel_rfl) ⟨_, (by (intro w' hC; clear hC; (try go_simp); (try with_reducible rfl); done)), _, (by (simp only [Act.put, List.setIfInBounds_toArray, List.set_cons_zero, List.set_cons_succ]; rfl)), ?_⟩
      refine pl_val (by (simp only [List.getElem?_toArray, List.getElem?_cons_succ, List.getElem?_cons_zero]; rfl)) (by kernel_rfl) ⟨_, (by (intro w' hC; clear hC; (try go_simp); (try with_reducible rfl); done)), _, (by (simp only [Act.put, List.setIfInBounds_toArray, List.set_cons_zero, List.set_cons_succ]; rfl)), ?_⟩
      refine pl_val (by (simp only [List.getElem?_toArray, List.getElem?_cons_succ, List.getElem?_cons_zero]; rfl)) (by kernel_rfl) ⟨_, (by (intro w' hC; clear hC; (try go_simp); (try with_reducible rfl); done)), _, (by (simp only [Act.put, List.setIfInBounds_toArray, List.set_cons_zero, List.set_cons_succ]; rfl)), ?_⟩
      refine pl_val (by (simp only [List.getElem?_toArray, List.getElem?_cons_succ, List.getElem?_cons_zero]; rfl)) (by kernel_rfl) ⟨_, (by (intro w' hC; clear hC; (try go_simp); (try with_reducible rfl); done)), _, (by (simp only [Act.put, List.setIfInBounds_toArray, List.set_cons_zero, List.set_cons_succ]; rfl)), ?_⟩
      refine pl_val (by (simp only [List.getElem?_toArray, List.getElem?_cons_succ, List.getElem?_cons_zero]; rfl)) (by kernel_rfl) ⟨_, (by (intro w' hC; clear hC; (try go_simp); (try with_reducible rfl); done)), _, (by (simp only [Act.put, List.setIfInBounds_toArray, List.set_cons_zero, List.set_cons_succ]; rfl)), ?_⟩
      refine pl_val (by (simp only [List.getElem?_toArray, List.getElem?_cons_succ, List.getElem?_cons_zero]; rfl)) (by kernel_rfl) ⟨_, (by (intro w' hC; clear hC; (try go_simp); (try with_reducible rfl); done)), _, (by (simp only [Act.put, List.setIfInBounds_toArray, List.set_cons_zero, List.set_cons_succ]; rfl)), ?_⟩
      refine pl_val (by (simp only [List.getElem?_toArray, List.getElem?_cons_succ, List.getElem?_cons_zero]; rfl)) (by kernel_rfl) ⟨_, (by (intro w' hC; clear hC; (try go_simp); (try with_reducible rfl); done)), _, (by (simp only [Act.put, List.setIfInBounds_toArray, List.set_cons_zero, List.set_cons_succ]; rfl)), ?_⟩
      refine pl_val (by (simp only [List.getElem?_toArray, List.getElem?_cons_succ, List.getElem?_cons_zero]; rfl)) (by kernel_rfl) ⟨_, (by (intro w' hC; clear hC; (try go_simp); (try with_reducible rfl); done)), _, (by (simp only [Act.put, List.setIfInBounds_toArray, List.set_cons_zero, List.set_cons_succ]; rfl)), ?_⟩
      refine pl_val (by (simp only [List.getElem?_toArray, List.getElem?_cons_succ, List.getElem?_cons_zero]; rfl)) (by kernel_rfl) ⟨_, (by (intro w' hC; clear hC; (try go_simp); (try with_reducible rfl); done)), _, (by (simp only [Act.put, List.setIfInBounds_toArray, List.set_cons_zero, List.set_cons_succ]; rfl)), ?_⟩
      clear hr2
      generalize w2.drew = wd at *
      obtain ⟨x0, x1, x2, x3, x4, x5, x6, x7, x8⟩ := hx9'
      obtain ⟨y0, y1, y2, y3, y4, y5, y6, y7, y8⟩ := hy9'
      have fz := fun o => hrd.frozen o
      refine pl_two (by (simp only [List.getElem?_toArray, List.getElem?_cons_succ, List.getElem?_cons_zero]; rfl)) (by (simp only [List.getElem?_toArray, List.getElem?_cons_succ, List.getElem?_cons_zero]; rfl)) hC0 ?_ ?_
      · refine al_val (by kernel_rfl) ⟨_, _, (by (go_simp; first | done | exact ⟨rfl, rfl⟩)), _, (by (simp only [Act.put, List.setIfInBounds_toArray, List.set_cons_zero, List.set_cons_succ]; rfl)), ?_⟩
        refine pl_one (by (simp only [List.getElem?_toArray, List.getElem?_cons_succ, List.getElem?_cons_zero]; rfl)) hC0 ?_
        refine al_val (by kernel_rfl) ⟨_, _, (by (go_simp; first | done | exact ⟨rfl, rfl⟩)), _, (by (simp only [Act.put, List.setIfInBounds_toArray, List.set_cons_zero, List.set_cons_succ]; rfl)), ?_⟩
        refine pl_val (by (simp only [List.getElem?_toArray, List.getElem?_cons_succ, List.getElem?_cons_zero]; rfl)) (by kernel_rfl) ⟨_, (by (intro w' hC; clear hC; (try go_simp); (try with_reducible rfl); done)), _, (by (simp only [Act.put, List.setIfInBounds_toArray, List.set_cons_zero, List.set_cons_succ]; rfl)), ?_⟩
        refine pl_one (by (simp only [List.getElem?_toArray, List.getElem?_cons_succ, List.getElem?_cons_zero]; rfl)) hC0 ?_
        refine al_skip (by kernel_rfl) ⟨_, (by (go_simp; first | done | rfl)), _, (by (simp only [Act.put, List.setIfInBounds_toArray, List.set_cons_zero, List.set_cons_succ]; rfl)), ?_⟩
        have hr3 := RowC.setCh hrd hi1 y
        change RowC (((((((((wd.setCell ⟨g, off + k1 * 9, none⟩ (.string y.p)).setCell ⟨g, off + k1 * 9 + 1, none⟩ (.int .i64 y.b)).setCell ⟨g, off + k1 * 9 + 2, none⟩ (.bool y.m)).setCell ⟨g, off + k1 * 9 + 3, none⟩ (.bool y.t)).setCell ⟨g, off + k1 * 9 + 4, none⟩ (.int .i64 y.k)).setCell ⟨g, off + k1 * 9 + 5, none⟩ (.int .i64 y.o)).setCell ⟨g, off + k1 * 9 + 6, none⟩ (.int .i64 y.s)).setCell ⟨g, off + k1 * 9 + 7, none⟩ (.int .i64 y.l)).setCell ⟨g, off + k1 * 9 + 8, none⟩ (.int .i64 y.v)) base (some ⟨g, off, none⟩) c (LL.set k1 y) at hr3
        have hf3 : Fr (fun b => b = g) w2 (((((((((wd.setCell ⟨g, off + k1 * 9, none⟩ (.string y.p)).setCell ⟨g, off + k1 * 9 + 1, none⟩ (.int .i64 y.b)).setCell ⟨g, off + k1 * 9 + 2, none⟩ (.bool y.m)).setCell ⟨g, off + k1 * 9 + 3, none⟩ (.bool y.t)).setCell ⟨g, off + k1 * 9 + 4, none⟩ (.int .i64 y.k)).setCell ⟨g, off + k1 * 9 + 5, none⟩ (.int .i64 y.o)).setCell ⟨g, off + k1 * 9 + 6, none⟩ (.int .i64 y.s)).setCell ⟨g, off + k1 * 9 + 7, none⟩ (.int .i64 y.l)).setCell ⟨g, off + k1 * 9 + 8, none⟩ (.int .i64 y.v)) := hC0.trans (setCh_fr wd g (off + k1 * 9) y) (fun _ _ e => e)
        clear x0 x1 x2 x3 x4 x5 x6 x7 x8 y0 y1 y2 y3 y4 y5 y6 y7 y8 fz
        generalize (((((((((wd.setCell ⟨g, off + k1 * 9, none⟩ (.string y.p)).setCell ⟨g, off + k1 * 9 + 1, none⟩ (.int .i64 y.b)).setCell ⟨g, off + k1 * 9 + 2, none⟩ (.bool y.m)).setCell ⟨g, off + k1 * 9 + 3, none⟩ (.bool y.t)).setCell ⟨g, off + k1 * 9 + 4, none⟩ (.int .i64 y.k)).setCell ⟨g, off + k1 * 9 + 5, none⟩ (.int .i64 y.o)).setCell ⟨g, off + k1 * 9 + 6, none⟩ (.int .i64 y.s)).setCell ⟨g, off + k1 * 9 + 7, none⟩ (.int .i64 y.l)).setCell ⟨g, off + k1 * 9 + 8, none⟩ (.int .i64 y.v)) = w3 at *
        have hk0 : k2 < (LL.set k1 y).length := by rw [List.length_set]; exact hi2
        have hy3 := hr3.at9 hk0
        obtain ⟨y0, y1, y2, y3, y4, y5, y6, y7, y8⟩ := hy3
        have fz := fun o => hr3.frozen o
        refine pl_val (by (simp only [List.getElem?_toArray, List.getElem?_cons_succ, List.getElem?_cons_zero]; rfl)) (by kernel_rfl) ⟨_, (by (intro w' hC; clear hC; (try go_simp); (try with_reducible rfl); done)), _, (by (simp only [Act.put, List.setIfInBounds_toArray, List.set_cons_zero, List.set_cons_succ]; rfl)), ?_⟩
        refine pl_one (by (simp only [List.getElem?_toArray, List.getElem?_cons_succ, List.getElem?_cons_zero]; rfl)) hf3 ?_
        refine al_skip (by kernel_rfl) ⟨_, (by (go_simp; first | done | rfl)), _, (by (simp only [Act.put, List.setIfInBounds_toArray, List.set_cons_zero, List.set_cons_succ]; rfl)), ?_⟩
        have hr5 := RowC.setCh hr3 hk0 x
        change RowC (((((((((w3.setCell ⟨g, off + k2 * 9, none⟩ (.string x.p)).setCell ⟨g, off + k2 * 9 + 1, none⟩ (.int .i64 x.b)).setCell ⟨g, off + k2 * 9 + 2, none⟩ (.bool x.m)).setCell ⟨g, off + k2 * 9 + 3, none⟩ (.bool x.t)).setCell ⟨g, off + k2 * 9 + 4, none⟩ (.int .i64 x.k)).setCell ⟨g, off + k2 * 9 + 5, none⟩ (.int .i64 x.o)).setCell ⟨g, off + k2 * 9 + 6, none⟩ (.int .i64 x.s)).setCell ⟨g, off + k2 * 9 + 7, none⟩ (.int .i64 x.l)).setCell ⟨g, off + k2 * 9 + 8, none⟩ (.int .i64 x.v)) base (some ⟨g, off, none⟩) c ((LL.set k1 y).set k2 x) at hr5
        have hf5 : Fr (fun b => b = g) w2 (((((((((w3.setCell ⟨g, off + k2 * 9, none⟩ (.string x.p)).setCell ⟨g, off + k2 * 9 + 1, none⟩ (.int .i64 x.b)).setCell ⟨g, off + k2 * 9 + 2, none⟩ (.bool x.m)).setCell ⟨g, off + k2 * 9 + 3, none⟩ (.bool x.t)).setCell ⟨g, off + k2 * 9 + 4, none⟩ (.int .i64 x.k)).setCell ⟨g, off + k2 * 9 + 5, none⟩ (.int .i64 x.o)).setCell ⟨g, off + k2 * 9 + 6, none⟩ (.int .i64 x.s)).setCell ⟨g, off + k2 * 9 + 7, none⟩ (.int .i64 x.l)).setCell ⟨g, off + k2 * 9 + 8, none⟩ (.int .i64 x.v)) := hf3.trans (setCh_fr w3 g (off + k2 * 9) x) (fun _ _ e => e)
        refine pl_end hf5 ?_
        simp only [Plan.count, Nat.reduceAdd, List.drop_succ_cons, List.drop_zero]
        generalize (((((((((w3.setCell ⟨g, off + k2 * 9, none⟩ (.string x.p)).setCell ⟨g, off + k2 * 9 + 1, none⟩ (.int .i64 x.b)).setCell ⟨g, off + k2 * 9 + 2, none⟩ (.bool x.m)).setCell ⟨g, off + k2 * 9 + 3, none⟩ (.bool x.t)).setCell ⟨g, off + k2 * 9 + 4, none⟩ (.int .i64 x.k)).setCell ⟨g, off + k2 * 9 + 5, none⟩ (.int .i64 x.o)).setCell ⟨g, off + k2 * 9 + 6, none⟩ (.int .i64 x.s)).setCell ⟨g, off + k2 * 9 + 7, none⟩ (.int .i64 x.l)).setCell ⟨g, off + k2 * 9 + 8, none⟩ (.int .i64 x.v)) = w5 at *
        clear y0 y1 y2 y3 y4 y5 y6 y7 y8 fz hr3 hf3 hrd hC0 hk0
        have HY5 : Hid (∀ q, q < N → ((LL.set k1 y).set k2 x)[q]? = X[swapAt a b (i + 1) q]?) := Lib.hid (fun q hq => by
          have e1 := HK1.out
          have e2 := HK2.out
          subst e1 e2
          exact swap_step (by omega) (by rw [HLN.out, HN.out]) (by rw [← HN.out]; omega) (fun q hq => HG.out q (by rw [HN.out]; exact hq)) HG1.out HG2.out q (by rw [← HN.out]; exact hq))
        have HR5 := Lib.hid hr5
        have HF5 := Lib.hid (hf2.trans hf5 (fun _ _ e => by rw [e]; rfl))
        have HL5 : Hid (((LL.set k1 y).set k2 x).length = N) := Lib.hid (by rw [List.length_set, List.length_set]; exact HLN.out)
        clear hr5 hf5
        go_wp2_with fail
        go_roundw
        case rel => exact ⟨i + 1, (LL.set k1 y).set k2 x, by omega, by go_num, HL5, HY5, HR5.out, HF5.out⟩
        case measure => simp [intOf]; omega
      · refine al_val (by kernel_rfl) ⟨_, _, (by (go_simp; first | done | exact ⟨rfl, rfl⟩)), _, (by (simp only [Act.put, List.setIfInBounds_toArray, List.set_cons_zero, List.set_cons_succ]; rfl)), ?_⟩
        refine pl_one (by (simp only [List.getElem?_toArray, List.getElem?_cons_succ, List.getElem?_cons_zero]; rfl)) hC0 ?_
        refine al_val (by kernel_rfl) ⟨_, _, (by (go_simp; first | done | exact ⟨rfl, rfl⟩)), _, (by (simp only [Act.put, List.setIfInBounds_toArray, List.set_cons_zero, List.set_cons_succ]; rfl)), ?_⟩
        refine pl_val (by (simp only [List.getElem?_toArray, List.getElem?_cons_succ, List.getElem?_cons_zero]; rfl)) (by kernel_rfl) ⟨_, (by (intro w' hC; clear hC; (try go_simp); (try with_reducible rfl); done)), _, (by (simp only [Act.put, List.setIfInBounds_toArray, List.set_cons_zero, List.set_cons_succ]; rfl)), ?_⟩
        refine pl_one (by (simp only [List.getElem?_toArray, List.getElem?_cons_succ, List.getElem?_cons_zero]; rfl)) hC0 ?_
        refine al_skip (by kernel_rfl) ⟨_, (by (go_simp; first | done | rfl)), _, (by (simp only [Act.put, List.setIfInBounds_toArray, List.set_cons_zero, List.set_cons_succ]; rfl)), ?_⟩
        have hr3 := RowC.setCh hrd hi1 y
        change RowC (((((((((wd.setCell ⟨g, off + k1 * 9, none⟩ (.string y.p)).setCell ⟨g, off + k1 * 9 + 1, none⟩ (.int .i64 y.b)).setCell ⟨g, off + k1 * 9 + 2, none⟩ (.bool y.m)).setCell ⟨g, off + k1 * 9 + 3, none⟩ (.bool y.t)).setCell ⟨g, off + k1 * 9 + 4, none⟩ (.int .i64 y.k)).setCell ⟨g, off + k1 * 9 + 5, none⟩ (.int .i64 y.o)).setCell ⟨g, off + k1 * 9 + 6, none⟩ (.int .i64 y.s)).setCell ⟨g, off + k1 * 9 + 7, none⟩ (.int .i64 y.l)).setCell ⟨g, off + k1 * 9 + 8, none⟩ (.int .i64 y.v)) base (some ⟨g, off, none⟩) c (LL.set k1 y) at hr3
        have hf3 : Fr (fun b => b = g) w2 (((((((((wd.setCell ⟨g, off + k1 * 9, none⟩ (.string y.p)).setCell ⟨g, off + k1 * 9 + 1, none⟩ (.int .i64 y.b)).setCell ⟨g, off + k1 * 9 + 2, none⟩ (.bool y.m)).setCell ⟨g, off + k1 * 9 + 3, none⟩ (.bool y.t)).setCell ⟨g, off + k1 * 9 + 4, none⟩ (.int .i64 y.k)).setCell ⟨g, off + k1 * 9 + 5, none⟩ (.int .i64 y.o)).setCell ⟨g, off + k1 * 9 + 6, none⟩ (.int .i64 y.s)).setCell ⟨g, off + k1 * 9 + 7, none⟩ (.int .i64 y.l)).setCell ⟨g, off + k1 * 9 + 8, none⟩ (.int .i64 y.v)) := hC0.trans (setCh_fr wd g (off + k1 * 9) y) (fun _ _ e => e)
        clear x0 x1 x2 x3 x4 x5 x6 x7 x8 y0 y1 y2 y3 y4 y5 y6 y7 y8 fz
        generalize (((((((((wd.setCell ⟨g, off + k1 * 9, none⟩ (.string y.p)).setCell ⟨g, off + k1 * 9 + 1, none⟩ (.int .i64 y.b)).setCell ⟨g, off + k1 * 9 + 2, none⟩ (.bool y.m)).setCell ⟨g, off + k1 * 9 + 3, none⟩ (.bool y.t)).setCell ⟨g, off + k1 * 9 + 4, none⟩ (.int .i64 y.k)).setCell ⟨g, off + k1 * 9 + 5, none⟩ (.int .i64 y.o)).setCell ⟨g, off + k1 * 9 + 6, none⟩ (.int .i64 y.s)).setCell ⟨g, off + k1 * 9 + 7, none⟩ (.int .i64 y.l)).setCell ⟨g, off + k1 * 9 + 8, none⟩ (.int .i64 y.v)) = w3 at *
        have hk0 : k2 < (LL.set k1 y).length := by rw [List.length_set]; exact hi2
        have hy3 := hr3.at9 hk0
        obtain ⟨y0, y1, y2, y3, y4, y5, y6, y7, y8⟩ := hy3
        have fz := fun o => hr3.frozen o
        refine pl_val (by (simp only [List.getElem?_toArray, List.getElem?_cons_succ, List.getElem?_cons_zero]; rfl)) (by kernel_rfl) ⟨_, (by (intro w' hC; clear hC; (try go_simp); (try with_reducible rfl); done)), _, (by (simp only [Act.put, List.setIfInBounds_toArray, List.set_cons_zero, List.set_cons_succ]; rfl)), ?_⟩
        refine pl_one (by (simp only [List.getElem?_toArray, List.getElem?_cons_succ, List.getElem?_cons_zero]; rfl)) hf3 ?_
        refine al_skip (by kernel_rfl) ⟨_, (by (go_simp; first | done | rfl)), _, (by (simp only [Act.put, List.setIfInBounds_toArray, List.set_cons_zero, List.set_cons_succ]; rfl)), ?_⟩
        have hr5 := RowC.setCh hr3 hk0 x
        change RowC (((((((((w3.setCell ⟨g, off + k2 * 9, none⟩ (.string x.p)).setCell ⟨g, off + k2 * 9 + 1, none⟩ (.int .i64 x.b)).setCell ⟨g, off + k2 * 9 + 2, none⟩ (.bool x.m)).setCell ⟨g, off + k2 * 9 + 3, none⟩ (.bool x.t)).setCell ⟨g, off + k2 * 9 + 4, none⟩ (.int .i64 x.k)).setCell ⟨g, off + k2 * 9 + 5, none⟩ (.int .i64 x.o)).setCell ⟨g, off + k2 * 9 + 6, none⟩ (.int .i64 x.s)).setCell ⟨g, off + k2 * 9 + 7, none⟩ (.int .i64 x.l)).setCell ⟨g, off + k2 * 9 + 8, none⟩ (.int .i64 x.v)) base (some ⟨g, off, none⟩) c ((LL.set k1 y).set k2 x) at hr5
        have hf5 : Fr (fun b => b = g) w2 (((((((((w3.setCell ⟨g, off + k2 * 9, none⟩ (.string x.p)).setCell ⟨g, off + k2 * 9 + 1, none⟩ (.int .i64 x.b)).setCell ⟨g, off + k2 * 9 + 2, none⟩ (.bool x.m)).setCell ⟨g, off + k2 * 9 + 3, none⟩ (.bool x.t)).setCell ⟨g, off + k2 * 9 + 4, none⟩ (.int .i64 x.k)).setCell ⟨g, off + k2 * 9 + 5, none⟩ (.int .i64 x.o)).setCell ⟨g, off + k2 * 9 + 6, none⟩ (.int .i64 x.s)).setCell ⟨g, off + k2 * 9 + 7, none⟩ (.int .i64 x.l)).setCell ⟨g, off + k2 * 9 + 8, none⟩ (.int .i64 x.v)) := hf3.trans (setCh_fr w3 g (off + k2 * 9) x) (fun _ _ e => e)
        refine pl_end hf5 ?_
        simp only [Plan.count, Nat.reduceAdd, List.drop_succ_cons, List.drop_zero]
        generalize (((((((((w3.setCell ⟨g, off + k2 * 9, none⟩ (.string x.p)).setCell ⟨g, off + k2 * 9 + 1, none⟩ (.int .i64 x.b)).setCell ⟨g, off + k2 * 9 + 2, none⟩ (.bool x.m)).setCell ⟨g, off + k2 * 9 + 3, none⟩ (.bool x.t)).setCell ⟨g, off + k2 * 9 + 4, none⟩ (.int .i64 x.k)).setCell ⟨g, off + k2 * 9 + 5, none⟩ (.int .i64 x.o)).setCell ⟨g, off + k2 * 9 + 6, none⟩ (.int .i64 x.s)).setCell ⟨g, off + k2 * 9 + 7, none⟩ (.int .i64 x.l)).setCell ⟨g, off + k2 * 9 + 8, none⟩ (.int .i64 x.v)) = w5 at *
        clear y0 y1 y2 y3 y4 y5 y6 y7 y8 fz hr3 hf3 hrd hC0 hk0
        have HY5 : Hid (∀ q, q < N → ((LL.set k1 y).set k2 x)[q]? = X[swapAt a b (i + 1) q]?) := Lib.hid (fun q hq => by
          have e1 := HK1.out
          have e2 := HK2.out
          subst e1 e2
          exact swap_step (by omega) (by rw [HLN.out, HN.out]) (by rw [← HN.out]; omega) (fun q hq => HG.out q (by rw [HN.out]; exact hq)) HG1.out HG2.out q (by rw [← HN.out]; exact hq))
        have HR5 := Lib.hid hr5
        have HF5 := Lib.hid (hf2.trans hf5 (fun _ _ e => by rw [e]; rfl))
        have HL5 : Hid (((LL.set k1 y).set k2 x).length = N) := Lib.hid (by rw [List.length_set, List.length_set]; exact HLN.out)
        clear hr5 hf5
        go_wp2_with fail
        go_roundw
        case rel => exact ⟨i + 1, (LL.set k1 y).set k2 x, by omega, by go_num, HL5, HY5, HR5.out, HF5.out⟩
        case measure => simp [intOf]; omega
    · have e : i = n := by omega
      subst e
      have HRE : Hid (∃ LL : List CV, LL.length = N ∧ (∀ q, q < N → LL[q]? = X[swapAt a b i q]?) ∧ RowC wr base A c LL) := Lib.hid ⟨LL, HLN.out, HG.out, hr2⟩
      have HFE := Lib.hid hf2
      clear hr2 hf2 HG HLN
      go_wp2_with fail
      go_end0
      exact ⟨rfl, HRE.out, HFE.out⟩


theorem cut_eq1 {α : Type} (P U V Q : List α) (j : Nat) : P ++ U ++ V ++ Q = P ++ U.take j ++ U.drop j ++ V ++ Q := by rw [List.append_assoc P (U.take j), List.take_append_drop]
theorem cut_eq2 {α : Type} (P U V Q : List α) (j : Nat) : P ++ U ++ V ++ Q = P ++ U ++ V.take j ++ V.drop j ++ Q := by rw [List.append_assoc (P ++ U) (V.take j), List.take_append_drop]
theorem swap_shape2 {α : Type} {P U M V Q X LL : List α} {a b n : Nat} (hX : X = P ++ U ++ M ++ V ++ Q) (hP : P.length = a) (hU : U.length = n) (hV : V.length = n) (hb : a + n + M.length = b) (hl : LL.length = X.length)
    (h : ∀ q, q < X.length → LL[q]? = X[swapAt a b n q]?) : LL = P ++ V ++ M ++ U ++ Q := by
  subst hX
  exact swap_shape hP hU hV hb hl (fun q hq => h q (by rw [← hl]; exact hq))
set_option maxRecDepth 100000 in
set_option maxHeartbeats 2000000 in
theorem rotate_any (A : Option Addr) (c a m b N base : Nat) (P U V Q : List CV) (w : World) (h : RowC w base A c (P ++ U ++ V ++ Q)) (hN : N = (P ++ U ++ V ++ Q).length) (hP : P.length = a) (hU : a + U.length = m) (hV : m + V.length = b) (h1 : 0 < U.length) (h2 : 0 < V.length) (hl : N ≤ 1000000) :
    Calls Tryz.prog 79 #[.slice A N c, .int .i64 (a : Int), .int .i64 (m : Int), .int .i64 (b : Int), .func (.func 33) #[] #[]] w fun e w' => e = .returned (.tuple #[]) ∧ RowC w' base A c (P ++ V ++ U ++ Q) ∧ Fr (fun g => ablk A = some g) w w' := by
  have HR := Lib.hid h
  have HN := Lib.hid hN
  have HP := Lib.hid hP
  have HU := Lib.hid hU
  have HV := Lib.hid hV
  have hNL : m + V.length + Q.length = N := by rw [hN]; simp only [List.length_append]; omega
  obtain ⟨T, hT⟩ : ∃ T, T = P ++ V ++ U ++ Q := ⟨_, rfl⟩
  have HT := Lib.hid hT
  rw [← hT]
  have hwi : IntKind.i64.wrap ((m : Int) - (a : Int)) = (U.length : Int) := by rw [IntKind.wrap_i64]; omega
  have hwj : IntKind.i64.wrap ((b : Int) - (m : Int)) = (V.length : Int) := by rw [IntKind.wrap_i64]; omega
  have hmN : m ≤ N := by omega
  obtain ⟨i0, hi0⟩ : ∃ i0, i0 = U.length := ⟨_, rfl⟩
  obtain ⟨j0, hj0⟩ : ∃ j0, j0 = V.length := ⟨_, rfl⟩
  rw [← hi0] at hwi
  rw [← hj0] at hwj
  have HI := Lib.hid hi0
  have HJ := Lib.hid hj0
  clear h hN hP hU hV hT hNL hi0 hj0
  go_enter Tryz.func79, Tryz.ntmps79
  go_wp2_with fail
  go_loopw [10, 11] (fun iv jv wr => ∃ (i j : Nat) (P' U' V' Q' : List CV), iv = .int .i64 (i : Int) ∧ jv = .int .i64 (j : Int) ∧ 0 < i ∧ 0 < j ∧ Hid (U'.length = i) ∧ Hid (V'.length = j) ∧ i ≤ m ∧ m + j ≤ N ∧ Hid (P'.length + i = m) ∧ Hid ((P' ++ U' ++ V' ++ Q').length = N) ∧ Hid (P' ++ V' ++ U' ++ Q' = T) ∧ RowC wr base A c (P' ++ U' ++ V' ++ Q') ∧ Fr (fun g => ablk A = some g) w wr) (fun iv jv _ => (intOf iv).toNat + (intOf jv).toNat)
  case atStart => exact ⟨i0, j0, P, U, V, Q, rfl, rfl, by rw [HI.out]; exact h1, by rw [HJ.out]; exact h2, Lib.hid HI.out.symm, Lib.hid HJ.out.symm, by have := HU.out; rw [HI.out]; omega, by have := HN.out; simp only [List.length_append] at this; have := HU.out; have := HP.out; rw [HJ.out]; omega, Lib.hid (by rw [HP.out, HI.out]; exact HU.out), Lib.hid HN.out.symm, Lib.hid HT.out.symm, HR.out, Fr.refl _ _⟩
  case round =>
    obtain ⟨i, j, P', U', V', Q', rfl, rfl, hi, hj, HUi, HVj, him, hmj, HPi, HNl, HTT, hr, hf⟩ := hrel
    have hwm : IntKind.i64.wrap ((m : Int) - (i : Int)) = ((m - i : Nat) : Int) := by rw [IntKind.wrap_i64]; omega
    obtain ⟨X, hX⟩ : ∃ X, X = P' ++ U' ++ V' ++ Q' := ⟨_, rfl⟩
    rw [← hX] at hr
    have HX := Lib.hid hX
    have hXN : X.length = N := by rw [hX]; exact HNl.out
    have hPm : P'.length = m - i := by have := HPi.out; omega
    have hlen := HNl.out
    simp only [List.length_append] at hlen
    rw [HUi.out, HVj.out] at hlen
    by_cases hne : i = j
    · subst hne
      have HS := Lib.hid (swapRange_any A c (m - i) m i base X wr hr (by omega) (by omega) (by omega))
      rw [hXN] at HS
      have HPM := Lib.hid hPm
      have HXN := Lib.hid hXN
      obtain ⟨k, hk⟩ : ∃ k, k = m - i := ⟨_, rfl⟩
      have HK := Lib.hid hk
      rw [← hk] at HS hwm HPM
      clear hX hXN hPm hlen hr hk
      go_wp2_with fail
      refine HS.out.mono ?_
      rintro e w2 ⟨rfl, ⟨LL, hLl, hLq, hr2⟩, hf2⟩
      have HSH : Hid (LL = P' ++ V' ++ [] ++ U' ++ Q') := Lib.hid (swap_shape2 (X := X) (M := []) (a := k) (b := m) (n := i) (by rw [HX.out]; simp) HPM.out HUi.out HVj.out (by rw [HK.out]; simp; omega) (by rw [hLl, HXN.out]) (fun q hq => hLq q (by rw [← HXN.out]; exact hq)))
      have HRE : Hid (RowC w2 base A c T) := Lib.hid (by rw [← HTT.out]; have := HSH.out; rw [List.append_nil] at this; rw [← this]; exact hr2)
      have HFE := Lib.hid (hf.trans hf2 (fun _ _ e => e))
      clear hLl hLq hr2 hf2 hf
      go_wp2_with fail
      go_end0
      exact ⟨rfl, HRE.out, HFE.out⟩
    · have hned : ((i : Int) != (j : Int)) = true := by simp; omega
      by_cases hgt : j < i
      · have HS := Lib.hid (swapRange_any A c (m - i) m j base X wr hr (by omega) (by omega) (by omega))
        rw [hXN] at HS
        have HPM := Lib.hid hPm
        have HXN := Lib.hid hXN
        have hwd : IntKind.i64.wrap ((i : Int) - (j : Int)) = ((i - j : Nat) : Int) := by rw [IntKind.wrap_i64]; omega
        obtain ⟨k, hk⟩ : ∃ k, k = m - i := ⟨_, rfl⟩
        obtain ⟨d, hd⟩ : ∃ d, d = i - j := ⟨_, rfl⟩
        have HK := Lib.hid hk
        have HD := Lib.hid hd
        rw [← hk] at HS hwm HPM
        rw [← hd] at hwd
        have HLEN := Lib.hid hlen
        clear hX hXN hPm hlen hr hk hd
        go_wp2_with fail
        refine HS.out.mono ?_
        rintro e w2 ⟨rfl, ⟨LL, hLl, hLq, hr2⟩, hf2⟩
        have HSH : Hid (LL = P' ++ V' ++ U'.drop j ++ U'.take j ++ Q') := Lib.hid (swap_shape2 (X := X) (U := U'.take j) (M := U'.drop j) (a := k) (b := m) (n := j) (HX.out.trans (cut_eq1 P' U' V' Q' j)) HPM.out (by rw [List.length_take, HUi.out]; omega) HVj.out (by rw [List.length_drop, HUi.out, HK.out]; omega) (by rw [hLl, HXN.out]) (fun q hq => hLq q (by rw [← HXN.out]; exact hq)))
        have HRE : Hid (RowC w2 base A c (P' ++ V' ++ U'.drop j ++ U'.take j ++ Q')) := Lib.hid (by rw [← HSH.out]; exact hr2)
        have HFE := Lib.hid (hf.trans hf2 (fun _ _ e => e))
        have HLN : Hid (LL.length = N) := Lib.hid hLl
        clear hLl hLq hr2 hf2 hf
        go_wp2_with fail
        go_roundw
        case rel => exact ⟨d, j, P' ++ V', U'.drop j, U'.take j, Q', by go_num, rfl, by have := HD.out; omega, hj, Lib.hid (by rw [List.length_drop, HUi.out, HD.out]), Lib.hid (by rw [List.length_take, HUi.out]; omega), by have := HD.out; omega, hmj, Lib.hid (by rw [List.length_append, HPM.out, HVj.out, HK.out, HD.out]; omega), Lib.hid (by rw [← HSH.out]; exact HLN.out), Lib.hid (by rw [← HTT.out]; simp), HRE.out, HFE.out⟩
        case measure => have := HD.out; simp [intOf]; omega
      · have hwd : IntKind.i64.wrap ((j : Int) - (i : Int)) = ((j - i : Nat) : Int) := by rw [IntKind.wrap_i64]; omega
        have HS := Lib.hid (swapRange_any A c (m - i) (m + j - i) i base X wr hr (by omega) (by omega) (by omega))
        rw [hXN] at HS
        have hws : IntKind.i64.wrap ((m : Int) + (j : Int)) = (m : Int) + (j : Int) := by rw [IntKind.wrap_i64]; omega
        have hwt : IntKind.i64.wrap ((m : Int) + (j : Int) - (i : Int)) = ((m + j - i : Nat) : Int) := by rw [IntKind.wrap_i64]; omega
        have HPM := Lib.hid hPm
        have HXN := Lib.hid hXN
        obtain ⟨k, hk⟩ : ∃ k, k = m - i := ⟨_, rfl⟩
        obtain ⟨t, ht⟩ : ∃ t, t = m + j - i := ⟨_, rfl⟩
        obtain ⟨d, hd⟩ : ∃ d, d = j - i := ⟨_, rfl⟩
        have HK := Lib.hid hk
        have HD := Lib.hid hd
        have HTI := Lib.hid ht
        rw [← hk] at HS hwm HPM
        rw [← ht] at HS hwt
        rw [← hd] at hwd
        have HLEN := Lib.hid hlen
        clear hX hXN hPm hlen hr hk hd ht
        go_wp2_with fail
        refine HS.out.mono ?_
        rintro e w2 ⟨rfl, ⟨LL, hLl, hLq, hr2⟩, hf2⟩
        have HSH : Hid (LL = P' ++ V'.drop d ++ V'.take d ++ U' ++ Q') := Lib.hid (swap_shape2 (X := X) (V := V'.drop d) (M := V'.take d) (a := k) (b := t) (n := i) (HX.out.trans (cut_eq2 P' U' V' Q' d)) HPM.out HUi.out (by rw [List.length_drop, HVj.out, HD.out]; omega) (by rw [List.length_take, HVj.out, HK.out, HTI.out, HD.out]; omega) (by rw [hLl, HXN.out]) (fun q hq => hLq q (by rw [← HXN.out]; exact hq)))
        have HRE : Hid (RowC w2 base A c (P' ++ V'.drop d ++ V'.take d ++ (U' ++ Q'))) := Lib.hid (by rw [← List.append_assoc, ← HSH.out]; exact hr2)
        have HFE := Lib.hid (hf.trans hf2 (fun _ _ e => e))
        have HLN : Hid (LL.length = N) := Lib.hid hLl
        clear hLl hLq hr2 hf2 hf
        go_wp2_with fail
        go_roundw
        case rel => exact ⟨i, d, P', V'.drop d, V'.take d, U' ++ Q', rfl, by go_num, hi, by have := HD.out; omega, Lib.hid (by rw [List.length_drop, HVj.out, HD.out]; omega), Lib.hid (by rw [List.length_take, HVj.out, HD.out]; omega), him, by have := HD.out; omega, HPi, Lib.hid (by rw [← List.append_assoc, ← HSH.out]; exact HLN.out), Lib.hid (by rw [← HTT.out, ← List.append_assoc, List.append_assoc P', List.take_append_drop]), HRE.out, HFE.out⟩
        case measure => have := HD.out; simp [intOf]; omega

end Go.Proofs.YtkeledbgmpienaaGreat

/- One that is merged with a sorted row; where symMerge cuts. Plain, no program. -/
namespace Go.Proofs.YtkeledbgmpienaaGreat

section
variable {α : Type} {lt : α → α → Bool}
theorem sym_one (h : OrdC lt) {x : α} {R1 R2 : List α} (hs : SortedC lt (R1 ++ R2)) (h1 : ∀ y ∈ R1, lt y x = true) (h2 : ∀ y ∈ R2, lt y x = false) : sortC lt ([x] ++ (R1 ++ R2)) = R1 ++ x :: R2 := by
  have hp := List.pairwise_append.1 hs
  have hp1 : SortedC lt R1 := hp.1
  have hp2 : SortedC lt (x :: R2) := List.pairwise_cons.2 ⟨h2, hp.2.1⟩
  have F2 : ([x] : List α).length ≤ 0 ∨ R1.length = 0 ∨ ∃ x' y, ([x] : List α)[0]? = some x' ∧ (R1 ++ R2)[R1.length - 1]? = some y ∧ lt y x' = true := by
    rcases Nat.eq_zero_or_pos R1.length with e | e
    · exact .inr (.inl e)
    · have hl : R1.length - 1 < R1.length := by omega
      refine .inr (.inr ⟨x, R1[R1.length - 1], rfl, ?_, h1 _ (List.getElem_mem hl)⟩)
      rw [List.getElem?_append_left hl, List.getElem?_eq_getElem hl]
  have := sym_parts h (L := [x]) (R := R1 ++ R2) (by simp [SortedC]) hs (i := 0) (j := R1.length) (.inl rfl) F2
  rw [this, List.take_zero, List.nil_append, List.take_left, List.drop_zero, List.drop_left, sortC_sorted_eq h hp1, List.singleton_append, sortC_sorted_eq h hp2]
theorem sym_last (h : OrdC lt) {y : α} {L1 L2 : List α} (hs : SortedC lt (L1 ++ L2)) (h1 : ∀ x ∈ L1, lt y x = false) (h2 : ∀ x ∈ L2, lt y x = true) : sortC lt ((L1 ++ L2) ++ [y]) = L1 ++ y :: L2 := by
  rw [sortC_snoc, sortC_sorted_eq h hs]
  exact insC_split h1 h2
theorem swap_mid2 {U V : List α} {x y : α} {k : Nat} (h : U.length = k) : ((U ++ x :: y :: V).set k y).set (k + 1) x = U ++ y :: x :: V := by
  rw [List.set_append_right _ _ (by omega), show k - U.length = 0 by omega, List.set_append_right _ _ (by omega), show k + 1 - U.length = 1 by omega]
  rfl
theorem four_get1 {P L R Q : List α} {a i : Nat} (hP : P.length = a) (hi : i < L.length) : (P ++ L ++ R ++ Q)[a + i]? = L[i]? := by
  rw [List.append_assoc, List.append_assoc, List.getElem?_append_right (by omega), List.getElem?_append_left (by omega)]
  congr 1; omega
theorem four_get2 {P L R Q : List α} {a m i : Nat} (hP : P.length = a) (hm : a + L.length = m) (hi : i < R.length) : (P ++ L ++ R ++ Q)[m + i]? = R[i]? := by
  rw [List.append_assoc (P ++ L), List.getElem?_append_right (by rw [List.length_append]; omega), List.getElem?_append_left (by rw [List.length_append]; omega), List.length_append]
  congr 1; omega
/-- where symMerge cuts -/
theorem sym_final (h : OrdC lt) {P L R Q : List α} {a m b mid s0 r0 s : Nat} (hP : P.length = a) (hm : a + L.length = m) (hb : m + R.length = b) (hL : SortedC lt L) (hR : SortedC lt R) (hmid : mid = (a + b) / 2) (h1 : 0 < L.length) (h2 : 0 < R.length)
    (hc : (mid < m ∧ s0 + b = mid + m ∧ r0 = mid) ∨ (m ≤ mid ∧ s0 = a ∧ r0 = m)) (hs1 : s0 ≤ s) (hs2 : s ≤ r0)
    (F1 : s = s0 ∨ ∃ x y, (P ++ L ++ R ++ Q)[s - 1]? = some x ∧ (P ++ L ++ R ++ Q)[mid + m - s]? = some y ∧ lt y x = false)
    (F2 : s = r0 ∨ ∃ x y, (P ++ L ++ R ++ Q)[s]? = some x ∧ (P ++ L ++ R ++ Q)[mid + m - 1 - s]? = some y ∧ lt y x = true) :
    sortC lt (L ++ R) = sortC lt (L.take (s - a) ++ R.take (mid - s)) ++ sortC lt (L.drop (s - a) ++ R.drop (mid - s)) := by
  have hlow : a ≤ s := by omega
  refine sym_parts h hL hR ?_ ?_
  · by_cases e0 : s = a
    · exact .inl (by omega)
    by_cases e1 : R.length ≤ mid - s
    · exact .inr (.inl e1)
    rcases F1 with e | ⟨x, y, f1, f2, f3⟩
    · omega
    · refine .inr (.inr ⟨x, y, ?_, ?_, f3⟩)
      · rw [← f1, ← four_get1 (P := P) (R := R) (Q := Q) hP (i := s - a - 1) (by omega)]
        congr 1; omega
      · rw [← f2, ← four_get2 (P := P) (L := L) (Q := Q) hP hm (i := mid - s) (by omega)]
        congr 1; omega
  · by_cases e0 : L.length ≤ s - a
    · exact .inl e0
    by_cases e1 : mid - s = 0
    · exact .inr (.inl e1)
    rcases F2 with e | ⟨x, y, f1, f2, f3⟩
    · omega
    · refine .inr (.inr ⟨x, y, ?_, ?_, f3⟩)
      · rw [← f1, ← four_get1 (P := P) (R := R) (Q := Q) hP (i := s - a) (by omega)]
        congr 1; omega
      · rw [← f2, ← four_get2 (P := P) (L := L) (Q := Q) hP hm (i := mid - s - 1) (by omega)]
        congr 1; omega
end
end Go.Proofs.YtkeledbgmpienaaGreat
