/- tenderref26.Close. -/
import Derived.Test.YtffimpjjdhnajaaFenceLight
import Derived.Deep.LoopGhost
namespace Go.Proofs.Ytffimpjjdhnajaa
open Go.RowKit Go.WideShapes Go.ChangeShapes Go.ChangeAt

/-- what holds of the next row while a round goes on over x -/
structure RS (l x nx : List CV) (more : Bool) : Prop where
  len : nx.length = x.length
  t : Turns l nx
  le : Le x nx
  no : more = false → nx = x
  yes : more = true → mv nx < mv x
theorem RS.start {l x : List CV} (h : Turns l x) : RS l x x false := ⟨rfl, h, Le.refl x, fun _ => rfl, fun h => (by cases h)⟩
theorem RS.put {l x nx : List CV} {more : Bool} {m : Nat} {a b : CV} (h : RS l x nx more) (ha : x[m]? = some a) (hb : nx[m]? = some b) (hf : Forced x a) : RS l x (nx.set m b.conf) true := by
  obtain ⟨h1, h2, h3⟩ := Turns.set_le h.t h.le ha hb hf
  exact ⟨by rw [List.length_set]; exact h.len, h1, h2, fun h => (by cases h), fun _ => h3⟩
theorem Row.cell8 {w : World} {base g off n c : Nat} {x : List CV} (h : Row w base 44 9 (some ⟨g, off, none⟩) n c (x.flatMap CV.cells)) {i : Nat} {a : CV} (ha : x[i]? = some a) :
    w.cell? ⟨g, off + i * 9 + 8, none⟩ = some (.int .i64 a.v) := by
  obtain ⟨hi, rfl⟩ := List.getElem?_eq_some_iff.1 ha
  have hq := h.cell (g := g) (off := off) (j := i * 9 + 8) (u := .int .i64 x[i].v) (by rw [flat_get (k := 9) ch_len x i 8 hi (by omega)]; rfl)
  rw [← Nat.add_assoc] at hq
  exact hq
theorem Row.put8 {w : World} {base g off n c : Nat} {x : List CV} (h : Row w base 44 9 (some ⟨g, off, none⟩) n c (x.flatMap CV.cells)) {i : Nat} {a : CV} (ha : x[i]? = some a) :
    Row (w.setCell ⟨g, off + i * 9 + 8, none⟩ (.int .i64 5)) base 44 9 (some ⟨g, off, none⟩) n c ((x.set i a.conf).flatMap CV.cells) := by
  have h1 := h.put (i * 9 + 8) (.int .i64 5)
  rw [ch_put x i a ha, ← Nat.add_assoc] at h1
  exact h1
theorem Row.nothing (w : World) (t : TypeId) (size : Nat) : Row (w.alloc (.cells #[] t)) w.heap.size t size (some ⟨w.heap.size, 0, none⟩) 0 0 [] :=
  ⟨by simp, Nat.le_refl _, by simp [maxLen], fun h => (by cases h), fun a ha => by
    injection ha with ha
    subst ha
    exact ⟨w.heap.size, 0, _, rfl, Nat.le_refl _, Blk.new w _ _, by simp, by simp⟩⟩
theorem below_nothing {w w1 : World} {t : TypeId} {row : Option Nat} (h : (w.alloc (.cells #[] t)).grownBy w1 row) (hr : ∀ k, row = some k → w.heap.size ≤ k) : Below w.heap.size w w1 := by
  have hf : Fr (fun k => w.heap.size ≤ k) (w.alloc (.cells #[] t)) w1 := Fr.of_grown h (fun k hk e => hr k e)
  exact ((Below.refl _ _).alloc (Nat.le_refl _) _).trans (hf.below (by simp) (fun k hk e => by omega))

set_option maxRecDepth 100000 in
set_option maxHeartbeats 4000000 in
theorem closeR_row (A : Option Addr) (c : Nat) (l : List CV) (Z : Nat → Prop) (w : World) (h : Chs w Z A l) (hlen : l.length ≤ 1000000) :
    Calls Try.prog 38 #[.slice A l.length c] w fun e w' => ∃ (A' : Option Addr) (c' : Nat) (x : List CV), e = .returned (.slice A' x.length c') ∧ Closes l x ∧ Row w' w.heap.size 44 9 A' x.length c' (x.flatMap CV.cells) ∧ Below w.heap.size w w' := by
  obtain ⟨i0, hi0, hz0, hz1, hz2⟩ := info_parts ch_info
  have hp : ∀ o : CV, o.p ∈ l.map CV.p → o.p.size ≤ 140737488355328 := fun o ho => by
    obtain ⟨q, hq, e⟩ := List.mem_map.1 ho
    rw [← e]
    exact h.p q hq
  have HR := Lib.hid (h.rd.alloc (.cells #[] 44))
  have HW := Lib.hid (Row.nothing w 44 9)
  have HC := Lib.hid (ch_one l)
  go_enter Try.func38, Try.ntmps38
  go_wp2_with (at_builtin; refine wpList_append_row _ rfl (.tmp 8) (.tmp 9) 41 rfl w.heap.size 44 i0 _ 9 72 Try.underlying41 hi0 hz0 hz1 hz2 rfl (by omega) rfl HW.out rfl HR.out HC.out (by simp only [maxLen]; omega) (by omega) (by simp) ?_; intro A1 c1 w1 h1 h2 h3; rw [List.nil_append, Nat.zero_add] at h1)
  have hb1 := below_nothing h2 (fun k hk => by injection hk with hk; exact Nat.le_of_eq hk)
  clear h2 h3 HR HW HC
  go_loopg [3] (mv l) (fun gk ov wr => ∃ (A1 : Option Addr) (c1 : Nat) (x : List CV), ov = .slice A1 l.length c1 ∧ x.length = l.length ∧ Turns l x ∧ mv x = gk ∧ Row wr w.heap.size 44 9 A1 l.length c1 (x.flatMap CV.cells) ∧ Below w.heap.size w wr)
  case atStart => exact ⟨A1, c1, l, rfl, rfl, .none, rfl, h1, hb1⟩
  case round =>
    clear h1 hb1
    obtain ⟨A1, c1, x, rfl, hxl, ht, hmv, hrow, hb⟩ := hrel
    obtain ⟨wo, rfl⟩ : ∃ wo : World, wo = wr := ⟨_, rfl⟩
    have hso := hb.size
    have hpx : ∀ (i : Nat) (a : CV), x[i]? = some a → a.p.size ≤ 140737488355328 := fun i a ha => hp a (ht.path ha)
    have HPX := Lib.hid hpx
    clear hpx hp
    rw [← hxl] at hlen ⊢
    rw [← hxl] at hrow
    have HR := Lib.hid (hrow.rd.alloc (.cells #[] 44))
    have HW := Lib.hid (Row.nothing wo 44 9)
    have HC := Lib.hid (ch_one x)
    have HXL := Lib.hid hxl
    have HT := Lib.hid ht
    have HMV := Lib.hid hmv
    have HROW := Lib.hid hrow
    clear hxl ht hmv hrow
    go_wp2_with (at_builtin; refine wpList_append_row _ rfl (.tmp 11) (.tmp 12) 41 rfl wo.heap.size 44 i0 _ 9 72 Try.underlying41 hi0 hz0 hz1 hz2 rfl (by omega) rfl HW.out rfl HR.out HC.out (by simp only [maxLen]; omega) (by omega) (by simp) ?_; intro A2 c2 w2 h1 h2 h3; rw [List.nil_append, Nat.zero_add] at h1)
    have hb2 := below_nothing h2 (fun k hk => by injection hk with hk; exact Nat.le_of_eq hk)
    clear h2 h3 HR HW HC
    have hs2 := hb2.size
    have HX2 : Hid (∀ wr, Fr (fun k => ablk A2 = some k) w2 wr → Row wr w.heap.size 44 9 A1 x.length c1 (x.flatMap CV.cells)) := fun wr hfr =>
      (HROW.out.below hb2).fr hfr (fun g hg e => by have h5 := (HROW.out.lt g hg).2; have h6 := (h1.lt g e).1; omega)
    have HF2 : Hid (∀ wr, Fr (fun k => ablk A2 = some k) w2 wr → Below w.heap.size w wr) := fun wr hfr =>
      (hb.trans (hb2.mono hso)).trans (hfr.below (by omega) (fun k hk e => by have h6 := (h1.lt k e).1; omega))
    have HA1 := Lib.hid (fun g hg => (HROW.out.lt g hg).2)
    clear HROW hb2
    go_loopw [5, 6] (fun mv5 iv wr => ∃ (more : Bool) (i : Nat) (nx : List CV), mv5 = .bool more ∧ iv = .int .i64 (i : Int) ∧ i ≤ x.length ∧ Hid (RS l x nx more) ∧ Hid (more = false → ∀ (j k : Nat) (a b : CV), j < i → x[j]? = some a → x[k]? = some b → upB a b = false ∧ lowB a b = false) ∧ Row wr wo.heap.size 44 9 A2 x.length c2 (nx.flatMap CV.cells) ∧ Fr (fun k => ablk A2 = some k) w2 wr) (fun _ iv _ => x.length - (intOf iv).toNat)
    case atStart => exact ⟨false, 0, x, rfl, rfl, Nat.zero_le _, RS.start HT.out, fun _ j k a b hj => absurd hj (Nat.not_lt_zero _), h1, Fr.refl _ _⟩
    case round =>
      obtain ⟨more, i, nx, rfl, rfl, hi, hRS, hP, hrN, hfr⟩ := hrel
      obtain ⟨wp, rfl⟩ : ∃ wp : World, wp = wr := ⟨_, rfl⟩
      by_cases hlt : i < x.length
      · have HX := Lib.hid (show x[i]? = some x[i] from List.getElem?_eq_getElem hlt)
        generalize x[i] = xi at *
        go_wp2_with fail
        go_loopw [5, 7] (fun mv5 kv wr => ∃ (more : Bool) (k : Nat) (nx : List CV), mv5 = .bool more ∧ kv = .int .i64 (k : Int) ∧ k ≤ x.length ∧ Hid (RS l x nx more) ∧ Hid (more = false → ∀ (j k : Nat) (a b : CV), j < i → x[j]? = some a → x[k]? = some b → upB a b = false ∧ lowB a b = false) ∧ Hid (more = false → ∀ (k' : Nat) (b : CV), k' < k → x[k']? = some b → upB xi b = false ∧ lowB xi b = false) ∧ Row wr wo.heap.size 44 9 A2 x.length c2 (nx.flatMap CV.cells) ∧ Fr (fun k => ablk A2 = some k) w2 wr) (fun _ kv _ => x.length - (intOf kv).toNat)
        case atStart => exact ⟨more, 0, nx, rfl, rfl, Nat.zero_le _, hRS, hP, fun _ k' b hk => absurd hk (Nat.not_lt_zero _), hrN, hfr⟩
        case round =>
          clear hRS hP hrN hfr
          obtain ⟨more, k, nx, rfl, rfl, hk, hRS, hP, hPk, hrN, hfr⟩ := hrel
          by_cases hlk : k < x.length
          · have HY := Lib.hid (show x[k]? = some x[k] from List.getElem?_eq_getElem hlk)
            obtain ⟨g2, o2, rfl, hg2, hg2l⟩ := hrN.addr (by omega)
            have rowx := HX2.out _ hfr
            obtain ⟨g, off, rfl, hz, hgb, at1⟩ := ch_at rowx.rd hlt
            obtain ⟨g', off', hA, hz', hgb', at2⟩ := ch_at rowx.rd hlk
            injection hA with hA
            injection hA with hA1 hA2
            subst hA1 hA2
            rw [show x[i] = xi from by have := HX.out; rw [List.getElem?_eq_getElem hlt] at this; injection this] at at1
            generalize x[k] = xk at *
            have hxp := HPX.out _ _ HX.out
            have hyp := HPX.out _ _ HY.out
            have HU := Lib.hid (fun w => upperR_any xi xk (by omega) (by omega) w)
            have HLo := Lib.hid (fun w => lowerR_any xi xk (by omega) (by omega) w)
            have hUL : Hid (upB xi xk = false → lowB xi xk = false → more = false → ∀ (k' : Nat) (b : CV), k' < k + 1 → x[k']? = some b → upB xi b = false ∧ lowB xi b = false) := fun e1 e2 e3 k' b hk' hb' => by
              rcases Nat.lt_or_ge k' k with h1 | h1
              · exact hPk.out e3 k' b h1 hb'
              · obtain rfl : k' = k := by omega
                rw [HY.out] at hb'
                injection hb' with hb'
                rw [← hb']
                exact ⟨e1, e2⟩
            have hFU : Hid (upB xi xk = true → Forced x xi) := fun e => .inl ⟨xk, List.mem_of_getElem? HY.out, e⟩
            have hFL : Hid (lowB xi xk = true → Forced x xk) := fun e => .inr ⟨xi, List.mem_of_getElem? HX.out, e⟩
            have hne : ¬ g2 = g := by have h5 := HA1.out g rfl; omega
            have hne2 : ¬ g = g2 := by omega
            clear hPk hxp hyp
            generalize upB xi xk = sp at *
            generalize lowB xi xk = sq at *
            have hfS : Hid (∀ wr, Fr (fun k => ablk (some ⟨g2, o2, none⟩) = some k) w2 wr → At9 wr g (off + i * 9) xi ∧ At9 wr g (off + k * 9) xk) := fun wv hfv => by
              have r1 := HX2.out _ hfv
              obtain ⟨q1, q2, hq, _, _, t1⟩ := ch_at r1.rd hlt
              injection hq with hq
              injection hq with hq1 hq2
              subst hq1 hq2
              obtain ⟨q1', q2', hq', _, _, t2⟩ := ch_at r1.rd hlk
              injection hq' with hq'
              injection hq' with hq1' hq2'
              subst hq1' hq2'
              have e1 : x[i] = xi := by have := HX.out; rw [List.getElem?_eq_getElem hlt] at this; injection this
              have e2 : x[k] = xk := by have := HY.out; rw [List.getElem?_eq_getElem hlk] at this; injection this
              rw [e1] at t1
              rw [e2] at t2
              exact ⟨t1, t2⟩
            have hgo : g < w2.heap.size := by have h5 := HA1.out g rfl; omega
            clear rowx at1 at2 hgb hgb'
            cases sp <;> cases sq
            · have hfW := hfr
              clear hfr
              have hPk2 : Hid (more = false → ∀ (k' : Nat) (b : CV), k' < k + 1 → x[k']? = some b → upB xi b = false ∧ lowB xi b = false) := fun e => hUL.out rfl rfl e
              clear hFU hFL hUL
              go_wp2_with fail
              refine wp_region_b 9 (by kernel_rfl) (by kernel_rfl) ?_
              simp only [List.take_succ_cons, List.take_zero, List.drop_succ_cons, List.drop_zero]
              refine lb_move _ (by kernel_rfl) rfl ⟨_, (by ((try simp [go_sem]); (try rfl); done)), _, (by (simp only [Act.put, List.setIfInBounds_toArray, List.set_cons_zero, List.set_cons_succ]; rfl)), ?_⟩
              refine lb_move _ (by kernel_rfl) rfl ⟨_, (by ((try simp [go_sem]); (try rfl); done)), _, (by (simp only [Act.put, List.setIfInBounds_toArray, List.set_cons_zero, List.set_cons_succ]; rfl)), ?_⟩
              refine lb_val (by kernel_rfl) ⟨_, (by (intro w' hC; clear hC; (try go_simp); (try with_reducible rfl); done)), _, (by (simp only [Act.put, List.setIfInBounds_toArray, List.set_cons_zero, List.set_cons_succ]; rfl)), ?_⟩
              refine lb_val (by kernel_rfl) ⟨_, (by (intro w' hC; (obtain ⟨a0, a1, a2, a3, a4, a5, a6, a7, a8⟩ := (hfS.out _ (hfW.then_below hC)).1); clear hC; (try go_simp); (try with_reducible rfl); done)), _, (by (simp only [Act.put, List.setIfInBounds_toArray, List.set_cons_zero, List.set_cons_succ]; rfl)), ?_⟩
              refine lb_move _ (by kernel_rfl) rfl ⟨_, (by ((try simp [go_sem]); (try rfl); done)), _, (by (simp only [Act.put, List.setIfInBounds_toArray, List.set_cons_zero, List.set_cons_succ]; rfl)), ?_⟩
              refine lb_move _ (by kernel_rfl) rfl ⟨_, (by ((try simp [go_sem]); (try rfl); done)), _, (by (simp only [Act.put, List.setIfInBounds_toArray, List.set_cons_zero, List.set_cons_succ]; rfl)), ?_⟩
              refine lb_val (by kernel_rfl) ⟨_, (by (intro w' hC; clear hC; (try go_simp); (try with_reducible rfl); done)), _, (by (simp only [Act.put, List.setIfInBounds_toArray, List.set_cons_zero, List.set_cons_succ]; rfl)), ?_⟩
              refine lb_val (by kernel_rfl) ⟨_, (by (intro w' hC; (obtain ⟨c0, c1, c2, c3, c4, c5, c6, c7, c8⟩ := (hfS.out _ (hfW.then_below hC)).2); clear hC; (try go_simp); (try with_reducible rfl); done)), _, (by (simp only [Act.put, List.setIfInBounds_toArray, List.set_cons_zero, List.set_cons_succ]; rfl)), ?_⟩
              refine lb_call (by kernel_rfl) (fun w' hC => HU.out _) (by (intro w'; go_simp; done)) ⟨_, (by (simp only [Act.put, List.setIfInBounds_toArray, List.set_cons_zero, List.set_cons_succ]; rfl)), ?_⟩
              refine .nil ?_
              intro w5 hb5
              have hrN := hrN.below hb5
              have hfW := hfW.then_below hb5
              clear hb5
              go_wp2_with fail
              refine wp_region_b 9 (by kernel_rfl) (by kernel_rfl) ?_
              simp only [List.take_succ_cons, List.take_zero, List.drop_succ_cons, List.drop_zero]
              refine lb_move _ (by kernel_rfl) rfl ⟨_, (by ((try simp [go_sem]); (try rfl); done)), _, (by (simp only [Act.put, List.setIfInBounds_toArray, List.set_cons_zero, List.set_cons_succ]; rfl)), ?_⟩
              refine lb_move _ (by kernel_rfl) rfl ⟨_, (by ((try simp [go_sem]); (try rfl); done)), _, (by (simp only [Act.put, List.setIfInBounds_toArray, List.set_cons_zero, List.set_cons_succ]; rfl)), ?_⟩
              refine lb_val (by kernel_rfl) ⟨_, (by (intro w' hC; clear hC; (try go_simp); (try with_reducible rfl); done)), _, (by (simp only [Act.put, List.setIfInBounds_toArray, List.set_cons_zero, List.set_cons_succ]; rfl)), ?_⟩
              refine lb_val (by kernel_rfl) ⟨_, (by (intro w' hC; (obtain ⟨a0, a1, a2, a3, a4, a5, a6, a7, a8⟩ := (hfS.out _ (hfW.then_below hC)).1); clear hC; (try go_simp); (try with_reducible rfl); done)), _, (by (simp only [Act.put, List.setIfInBounds_toArray, List.set_cons_zero, List.set_cons_succ]; rfl)), ?_⟩
              refine lb_move _ (by kernel_rfl) rfl ⟨_, (by ((try simp [go_sem]); (try rfl); done)), _, (by (simp only [Act.put, List.setIfInBounds_toArray, List.set_cons_zero, List.set_cons_succ]; rfl)), ?_⟩
              refine lb_move _ (by kernel_rfl) rfl ⟨_, (by ((try simp [go_sem]); (try rfl); done)), _, (by (simp only [Act.put, List.setIfInBounds_toArray, List.set_cons_zero, List.set_cons_succ]; rfl)), ?_⟩
              refine lb_val (by kernel_rfl) ⟨_, (by (intro w' hC; clear hC; (try go_simp); (try with_reducible rfl); done)), _, (by (simp only [Act.put, List.setIfInBounds_toArray, List.set_cons_zero, List.set_cons_succ]; rfl)), ?_⟩
              refine lb_val (by kernel_rfl) ⟨_, (by (intro w' hC; (obtain ⟨c0, c1, c2, c3, c4, c5, c6, c7, c8⟩ := (hfS.out _ (hfW.then_below hC)).2); clear hC; (try go_simp); (try with_reducible rfl); done)), _, (by (simp only [Act.put, List.setIfInBounds_toArray, List.set_cons_zero, List.set_cons_succ]; rfl)), ?_⟩
              refine lb_call (by kernel_rfl) (fun w' hC => HLo.out _) (by (intro w'; go_simp; done)) ⟨_, (by (simp only [Act.put, List.setIfInBounds_toArray, List.set_cons_zero, List.set_cons_succ]; rfl)), ?_⟩
              refine .nil ?_
              intro w5 hb5
              have hrN := hrN.below hb5
              have hfW := hfW.then_below hb5
              clear hb5
              go_wp2_with fail
              go_roundw
              case rel => exact ⟨more, k + 1, nx, rfl, by go_num, hlk, hRS, hP, hPk2, hrN, hfW⟩
              case measure => simp [intOf]; omega
            · have hfW := hfr
              clear hfr
              have hF2 : Hid (Forced x xk) := hFL.out rfl
              clear hFU hFL hUL
              go_wp2_with fail
              refine wp_region_b 9 (by kernel_rfl) (by kernel_rfl) ?_
              simp only [List.take_succ_cons, List.take_zero, List.drop_succ_cons, List.drop_zero]
              refine lb_move _ (by kernel_rfl) rfl ⟨_, (by ((try simp [go_sem]); (try rfl); done)), _, (by (simp only [Act.put, List.setIfInBounds_toArray, List.set_cons_zero, List.set_cons_succ]; rfl)), ?_⟩
              refine lb_move _ (by kernel_rfl) rfl ⟨_, (by ((try simp [go_sem]); (try rfl); done)), _, (by (simp only [Act.put, List.setIfInBounds_toArray, List.set_cons_zero, List.set_cons_succ]; rfl)), ?_⟩
              refine lb_val (by kernel_rfl) ⟨_, (by (intro w' hC; clear hC; (try go_simp); (try with_reducible rfl); done)), _, (by (simp only [Act.put, List.setIfInBounds_toArray, List.set_cons_zero, List.set_cons_succ]; rfl)), ?_⟩
              refine lb_val (by kernel_rfl) ⟨_, (by (intro w' hC; (obtain ⟨a0, a1, a2, a3, a4, a5, a6, a7, a8⟩ := (hfS.out _ (hfW.then_below hC)).1); clear hC; (try go_simp); (try with_reducible rfl); done)), _, (by (simp only [Act.put, List.setIfInBounds_toArray, List.set_cons_zero, List.set_cons_succ]; rfl)), ?_⟩
              refine lb_move _ (by kernel_rfl) rfl ⟨_, (by ((try simp [go_sem]); (try rfl); done)), _, (by (simp only [Act.put, List.setIfInBounds_toArray, List.set_cons_zero, List.set_cons_succ]; rfl)), ?_⟩
              refine lb_move _ (by kernel_rfl) rfl ⟨_, (by ((try simp [go_sem]); (try rfl); done)), _, (by (simp only [Act.put, List.setIfInBounds_toArray, List.set_cons_zero, List.set_cons_succ]; rfl)), ?_⟩
              refine lb_val (by kernel_rfl) ⟨_, (by (intro w' hC; clear hC; (try go_simp); (try with_reducible rfl); done)), _, (by (simp only [Act.put, List.setIfInBounds_toArray, List.set_cons_zero, List.set_cons_succ]; rfl)), ?_⟩
              refine lb_val (by kernel_rfl) ⟨_, (by (intro w' hC; (obtain ⟨c0, c1, c2, c3, c4, c5, c6, c7, c8⟩ := (hfS.out _ (hfW.then_below hC)).2); clear hC; (try go_simp); (try with_reducible rfl); done)), _, (by (simp only [Act.put, List.setIfInBounds_toArray, List.set_cons_zero, List.set_cons_succ]; rfl)), ?_⟩
              refine lb_call (by kernel_rfl) (fun w' hC => HU.out _) (by (intro w'; go_simp; done)) ⟨_, (by (simp only [Act.put, List.setIfInBounds_toArray, List.set_cons_zero, List.set_cons_succ]; rfl)), ?_⟩
              refine .nil ?_
              intro w5 hb5
              have hrN := hrN.below hb5
              have hfW := hfW.then_below hb5
              clear hb5
              go_wp2_with fail
              refine wp_region_b 9 (by kernel_rfl) (by kernel_rfl) ?_
              simp only [List.take_succ_cons, List.take_zero, List.drop_succ_cons, List.drop_zero]
              refine lb_move _ (by kernel_rfl) rfl ⟨_, (by ((try simp [go_sem]); (try rfl); done)), _, (by (simp only [Act.put, List.setIfInBounds_toArray, List.set_cons_zero, List.set_cons_succ]; rfl)), ?_⟩
              refine lb_move _ (by kernel_rfl) rfl ⟨_, (by ((try simp [go_sem]); (try rfl); done)), _, (by (simp only [Act.put, List.setIfInBounds_toArray, List.set_cons_zero, List.set_cons_succ]; rfl)), ?_⟩
              refine lb_val (by kernel_rfl) ⟨_, (by (intro w' hC; clear hC; (try go_simp); (try with_reducible rfl); done)), _, (by (simp only [Act.put, List.setIfInBounds_toArray, List.set_cons_zero, List.set_cons_succ]; rfl)), ?_⟩
              refine lb_val (by kernel_rfl) ⟨_, (by (intro w' hC; (obtain ⟨a0, a1, a2, a3, a4, a5, a6, a7, a8⟩ := (hfS.out _ (hfW.then_below hC)).1); clear hC; (try go_simp); (try with_reducible rfl); done)), _, (by (simp only [Act.put, List.setIfInBounds_toArray, List.set_cons_zero, List.set_cons_succ]; rfl)), ?_⟩
              refine lb_move _ (by kernel_rfl) rfl ⟨_, (by ((try simp [go_sem]); (try rfl); done)), _, (by (simp only [Act.put, List.setIfInBounds_toArray, List.set_cons_zero, List.set_cons_succ]; rfl)), ?_⟩
              refine lb_move _ (by kernel_rfl) rfl ⟨_, (by ((try simp [go_sem]); (try rfl); done)), _, (by (simp only [Act.put, List.setIfInBounds_toArray, List.set_cons_zero, List.set_cons_succ]; rfl)), ?_⟩
              refine lb_val (by kernel_rfl) ⟨_, (by (intro w' hC; clear hC; (try go_simp); (try with_reducible rfl); done)), _, (by (simp only [Act.put, List.setIfInBounds_toArray, List.set_cons_zero, List.set_cons_succ]; rfl)), ?_⟩
              refine lb_val (by kernel_rfl) ⟨_, (by (intro w' hC; (obtain ⟨c0, c1, c2, c3, c4, c5, c6, c7, c8⟩ := (hfS.out _ (hfW.then_below hC)).2); clear hC; (try go_simp); (try with_reducible rfl); done)), _, (by (simp only [Act.put, List.setIfInBounds_toArray, List.set_cons_zero, List.set_cons_succ]; rfl)), ?_⟩
              refine lb_call (by kernel_rfl) (fun w' hC => HLo.out _) (by (intro w'; go_simp; done)) ⟨_, (by (simp only [Act.put, List.setIfInBounds_toArray, List.set_cons_zero, List.set_cons_succ]; rfl)), ?_⟩
              refine .nil ?_
              intro w5 hb5
              have hrN := hrN.below hb5
              have hfW := hfW.then_below hb5
              clear hb5
              obtain ⟨b1, hb1⟩ : ∃ b1, nx[k]? = some b1 := ⟨_, List.getElem?_eq_getElem (by rw [hRS.out.len]; omega)⟩
              have hRS := Lib.hid (hRS.out.put HY.out hb1 hF2.out)
              have q8 := hrN.cell8 hb1
              have z8 : w5.frozen? ⟨g2, o2 + k * 9 + 8, none⟩ = false := hrN.frozen _
              have hrN := hrN.put8 hb1
              have hfW := hfW.setAt g2 (o2 + k * 9 + 8) rfl (.int .i64 5)
              have HrN := Lib.hid hrN
              have HfW := Lib.hid hfW
              clear hrN hfW hb1
              go_wp2_with fail
              clear q8 z8
              generalize w5.setCell ⟨g2, o2 + k * 9 + 8, none⟩ (.int .i64 5) = w5 at *
              have hrN := HrN.out
              have hfW := HfW.out
              clear HrN HfW
              generalize nx.set k b1.conf = nx at *
              go_roundw
              case rel => exact ⟨true, k + 1, nx, rfl, by go_num, hlk, hRS, (fun h => (by cases h)), (fun h => (by cases h)), hrN, hfW⟩
              case measure => simp [intOf]; omega
            · have hfW := hfr
              clear hfr
              have hF1 : Hid (Forced x xi) := hFU.out rfl
              clear hFU hFL hUL
              go_wp2_with fail
              refine wp_region_b 9 (by kernel_rfl) (by kernel_rfl) ?_
              simp only [List.take_succ_cons, List.take_zero, List.drop_succ_cons, List.drop_zero]
              refine lb_move _ (by kernel_rfl) rfl ⟨_, (by ((try simp [go_sem]); (try rfl); done)), _, (by (simp only [Act.put, List.setIfInBounds_toArray, List.set_cons_zero, List.set_cons_succ]; rfl)), ?_⟩
              refine lb_move _ (by kernel_rfl) rfl ⟨_, (by ((try simp [go_sem]); (try rfl); done)), _, (by (simp only [Act.put, List.setIfInBounds_toArray, List.set_cons_zero, List.set_cons_succ]; rfl)), ?_⟩
              refine lb_val (by kernel_rfl) ⟨_, (by (intro w' hC; clear hC; (try go_simp); (try with_reducible rfl); done)), _, (by (simp only [Act.put, List.setIfInBounds_toArray, List.set_cons_zero, List.set_cons_succ]; rfl)), ?_⟩
              refine lb_val (by kernel_rfl) ⟨_, (by (intro w' hC; (obtain ⟨a0, a1, a2, a3, a4, a5, a6, a7, a8⟩ := (hfS.out _ (hfW.then_below hC)).1); clear hC; (try go_simp); (try with_reducible rfl); done)), _, (by (simp only [Act.put, List.setIfInBounds_toArray, List.set_cons_zero, List.set_cons_succ]; rfl)), ?_⟩
              refine lb_move _ (by kernel_rfl) rfl ⟨_, (by ((try simp [go_sem]); (try rfl); done)), _, (by (simp only [Act.put, List.setIfInBounds_toArray, List.set_cons_zero, List.set_cons_succ]; rfl)), ?_⟩
              refine lb_move _ (by kernel_rfl) rfl ⟨_, (by ((try simp [go_sem]); (try rfl); done)), _, (by (simp only [Act.put, List.setIfInBounds_toArray, List.set_cons_zero, List.set_cons_succ]; rfl)), ?_⟩
              refine lb_val (by kernel_rfl) ⟨_, (by (intro w' hC; clear hC; (try go_simp); (try with_reducible rfl); done)), _, (by (simp only [Act.put, List.setIfInBounds_toArray, List.set_cons_zero, List.set_cons_succ]; rfl)), ?_⟩
              refine lb_val (by kernel_rfl) ⟨_, (by (intro w' hC; (obtain ⟨c0, c1, c2, c3, c4, c5, c6, c7, c8⟩ := (hfS.out _ (hfW.then_below hC)).2); clear hC; (try go_simp); (try with_reducible rfl); done)), _, (by (simp only [Act.put, List.setIfInBounds_toArray, List.set_cons_zero, List.set_cons_succ]; rfl)), ?_⟩
              refine lb_call (by kernel_rfl) (fun w' hC => HU.out _) (by (intro w'; go_simp; done)) ⟨_, (by (simp only [Act.put, List.setIfInBounds_toArray, List.set_cons_zero, List.set_cons_succ]; rfl)), ?_⟩
              refine .nil ?_
              intro w5 hb5
              have hrN := hrN.below hb5
              have hfW := hfW.then_below hb5
              clear hb5
              obtain ⟨b1, hb1⟩ : ∃ b1, nx[i]? = some b1 := ⟨_, List.getElem?_eq_getElem (by rw [hRS.out.len]; omega)⟩
              have hRS := Lib.hid (hRS.out.put HX.out hb1 hF1.out)
              have q8 := hrN.cell8 hb1
              have z8 : w5.frozen? ⟨g2, o2 + i * 9 + 8, none⟩ = false := hrN.frozen _
              have hrN := hrN.put8 hb1
              have hfW := hfW.setAt g2 (o2 + i * 9 + 8) rfl (.int .i64 5)
              have HrN := Lib.hid hrN
              have HfW := Lib.hid hfW
              clear hrN hfW hb1
              go_wp2_with fail
              clear q8 z8
              generalize w5.setCell ⟨g2, o2 + i * 9 + 8, none⟩ (.int .i64 5) = w5 at *
              have hrN := HrN.out
              have hfW := HfW.out
              clear HrN HfW
              generalize nx.set i b1.conf = nx at *
              refine wp_region_b 9 (by kernel_rfl) (by kernel_rfl) ?_
              simp only [List.take_succ_cons, List.take_zero, List.drop_succ_cons, List.drop_zero]
              refine lb_move _ (by kernel_rfl) rfl ⟨_, (by ((try simp [go_sem]); (try rfl); done)), _, (by (simp only [Act.put, List.setIfInBounds_toArray, List.set_cons_zero, List.set_cons_succ]; rfl)), ?_⟩
              refine lb_move _ (by kernel_rfl) rfl ⟨_, (by ((try simp [go_sem]); (try rfl); done)), _, (by (simp only [Act.put, List.setIfInBounds_toArray, List.set_cons_zero, List.set_cons_succ]; rfl)), ?_⟩
              refine lb_val (by kernel_rfl) ⟨_, (by (intro w' hC; clear hC; (try go_simp); (try with_reducible rfl); done)), _, (by (simp only [Act.put, List.setIfInBounds_toArray, List.set_cons_zero, List.set_cons_succ]; rfl)), ?_⟩
              refine lb_val (by kernel_rfl) ⟨_, (by (intro w' hC; (obtain ⟨a0, a1, a2, a3, a4, a5, a6, a7, a8⟩ := (hfS.out _ (hfW.then_below hC)).1); clear hC; (try go_simp); (try with_reducible rfl); done)), _, (by (simp only [Act.put, List.setIfInBounds_toArray, List.set_cons_zero, List.set_cons_succ]; rfl)), ?_⟩
              refine lb_move _ (by kernel_rfl) rfl ⟨_, (by ((try simp [go_sem]); (try rfl); done)), _, (by (simp only [Act.put, List.setIfInBounds_toArray, List.set_cons_zero, List.set_cons_succ]; rfl)), ?_⟩
              refine lb_move _ (by kernel_rfl) rfl ⟨_, (by ((try simp [go_sem]); (try rfl); done)), _, (by (simp only [Act.put, List.setIfInBounds_toArray, List.set_cons_zero, List.set_cons_succ]; rfl)), ?_⟩
              refine lb_val (by kernel_rfl) ⟨_, (by (intro w' hC; clear hC; (try go_simp); (try with_reducible rfl); done)), _, (by (simp only [Act.put, List.setIfInBounds_toArray, List.set_cons_zero, List.set_cons_succ]; rfl)), ?_⟩
              refine lb_val (by kernel_rfl) ⟨_, (by (intro w' hC; (obtain ⟨c0, c1, c2, c3, c4, c5, c6, c7, c8⟩ := (hfS.out _ (hfW.then_below hC)).2); clear hC; (try go_simp); (try with_reducible rfl); done)), _, (by (simp only [Act.put, List.setIfInBounds_toArray, List.set_cons_zero, List.set_cons_succ]; rfl)), ?_⟩
              refine lb_call (by kernel_rfl) (fun w' hC => HLo.out _) (by (intro w'; go_simp; done)) ⟨_, (by (simp only [Act.put, List.setIfInBounds_toArray, List.set_cons_zero, List.set_cons_succ]; rfl)), ?_⟩
              refine .nil ?_
              intro w5 hb5
              have hrN := hrN.below hb5
              have hfW := hfW.then_below hb5
              clear hb5
              go_wp2_with fail
              go_roundw
              case rel => exact ⟨true, k + 1, nx, rfl, by go_num, hlk, hRS, (fun h => (by cases h)), (fun h => (by cases h)), hrN, hfW⟩
              case measure => simp [intOf]; omega
            · have hfW := hfr
              clear hfr
              have hF1 : Hid (Forced x xi) := hFU.out rfl
              have hF2 : Hid (Forced x xk) := hFL.out rfl
              clear hFU hFL hUL
              go_wp2_with fail
              refine wp_region_b 9 (by kernel_rfl) (by kernel_rfl) ?_
              simp only [List.take_succ_cons, List.take_zero, List.drop_succ_cons, List.drop_zero]
              refine lb_move _ (by kernel_rfl) rfl ⟨_, (by ((try simp [go_sem]); (try rfl); done)), _, (by (simp only [Act.put, List.setIfInBounds_toArray, List.set_cons_zero, List.set_cons_succ]; rfl)), ?_⟩
              refine lb_move _ (by kernel_rfl) rfl ⟨_, (by ((try simp [go_sem]); (try rfl); done)), _, (by (simp only [Act.put, List.setIfInBounds_toArray, List.set_cons_zero, List.set_cons_succ]; rfl)), ?_⟩
              refine lb_val (by kernel_rfl) ⟨_, (by (intro w' hC; clear hC; (try go_simp); (try with_reducible rfl); done)), _, (by (simp only [Act.put, List.setIfInBounds_toArray, List.set_cons_zero, List.set_cons_succ]; rfl)), ?_⟩
              refine lb_val (by kernel_rfl) ⟨_, (by (intro w' hC; (obtain ⟨a0, a1, a2, a3, a4, a5, a6, a7, a8⟩ := (hfS.out _ (hfW.then_below hC)).1); clear hC; (try go_simp); (try with_reducible rfl); done)), _, (by (simp only [Act.put, List.setIfInBounds_toArray, List.set_cons_zero, List.set_cons_succ]; rfl)), ?_⟩
              refine lb_move _ (by kernel_rfl) rfl ⟨_, (by ((try simp [go_sem]); (try rfl); done)), _, (by (simp only [Act.put, List.setIfInBounds_toArray, List.set_cons_zero, List.set_cons_succ]; rfl)), ?_⟩
              refine lb_move _ (by kernel_rfl) rfl ⟨_, (by ((try simp [go_sem]); (try rfl); done)), _, (by (simp only [Act.put, List.setIfInBounds_toArray, List.set_cons_zero, List.set_cons_succ]; rfl)), ?_⟩
              refine lb_val (by kernel_rfl) ⟨_, (by (intro w' hC; clear hC; (try go_simp); (try with_reducible rfl); done)), _, (by (simp only [Act.put, List.setIfInBounds_toArray, List.set_cons_zero, List.set_cons_succ]; rfl)), ?_⟩
              refine lb_val (by kernel_rfl) ⟨_, (by (intro w' hC; (obtain ⟨c0, c1, c2, c3, c4, c5, c6, c7, c8⟩ := (hfS.out _ (hfW.then_below hC)).2); clear hC; (try go_simp); (try with_reducible rfl); done)), _, (by (simp only [Act.put, List.setIfInBounds_toArray, List.set_cons_zero, List.set_cons_succ]; rfl)), ?_⟩
              refine lb_call (by kernel_rfl) (fun w' hC => HU.out _) (by (intro w'; go_simp; done)) ⟨_, (by (simp only [Act.put, List.setIfInBounds_toArray, List.set_cons_zero, List.set_cons_succ]; rfl)), ?_⟩
              refine .nil ?_
              intro w5 hb5
              have hrN := hrN.below hb5
              have hfW := hfW.then_below hb5
              clear hb5
              obtain ⟨b1, hb1⟩ : ∃ b1, nx[i]? = some b1 := ⟨_, List.getElem?_eq_getElem (by rw [hRS.out.len]; omega)⟩
              have hRS := Lib.hid (hRS.out.put HX.out hb1 hF1.out)
              have q8 := hrN.cell8 hb1
              have z8 : w5.frozen? ⟨g2, o2 + i * 9 + 8, none⟩ = false := hrN.frozen _
              have hrN := hrN.put8 hb1
              have hfW := hfW.setAt g2 (o2 + i * 9 + 8) rfl (.int .i64 5)
              have HrN := Lib.hid hrN
              have HfW := Lib.hid hfW
              clear hrN hfW hb1
              go_wp2_with fail
              clear q8 z8
              generalize w5.setCell ⟨g2, o2 + i * 9 + 8, none⟩ (.int .i64 5) = w5 at *
              have hrN := HrN.out
              have hfW := HfW.out
              clear HrN HfW
              generalize nx.set i b1.conf = nx at *
              refine wp_region_b 9 (by kernel_rfl) (by kernel_rfl) ?_
              simp only [List.take_succ_cons, List.take_zero, List.drop_succ_cons, List.drop_zero]
              refine lb_move _ (by kernel_rfl) rfl ⟨_, (by ((try simp [go_sem]); (try rfl); done)), _, (by (simp only [Act.put, List.setIfInBounds_toArray, List.set_cons_zero, List.set_cons_succ]; rfl)), ?_⟩
              refine lb_move _ (by kernel_rfl) rfl ⟨_, (by ((try simp [go_sem]); (try rfl); done)), _, (by (simp only [Act.put, List.setIfInBounds_toArray, List.set_cons_zero, List.set_cons_succ]; rfl)), ?_⟩
              refine lb_val (by kernel_rfl) ⟨_, (by (intro w' hC; clear hC; (try go_simp); (try with_reducible rfl); done)), _, (by (simp only [Act.put, List.setIfInBounds_toArray, List.set_cons_zero, List.set_cons_succ]; rfl)), ?_⟩
              refine lb_val (by kernel_rfl) ⟨_, (by (intro w' hC; (obtain ⟨a0, a1, a2, a3, a4, a5, a6, a7, a8⟩ := (hfS.out _ (hfW.then_below hC)).1); clear hC; (try go_simp); (try with_reducible rfl); done)), _, (by (simp only [Act.put, List.setIfInBounds_toArray, List.set_cons_zero, List.set_cons_succ]; rfl)), ?_⟩
              refine lb_move _ (by kernel_rfl) rfl ⟨_, (by ((try simp [go_sem]); (try rfl); done)), _, (by (simp only [Act.put, List.setIfInBounds_toArray, List.set_cons_zero, List.set_cons_succ]; rfl)), ?_⟩
              refine lb_move _ (by kernel_rfl) rfl ⟨_, (by ((try simp [go_sem]); (try rfl); done)), _, (by (simp only [Act.put, List.setIfInBounds_toArray, List.set_cons_zero, List.set_cons_succ]; rfl)), ?_⟩
              refine lb_val (by kernel_rfl) ⟨_, (by (intro w' hC; clear hC; (try go_simp); (try with_reducible rfl); done)), _, (by (simp only [Act.put, List.setIfInBounds_toArray, List.set_cons_zero, List.set_cons_succ]; rfl)), ?_⟩
              refine lb_val (by kernel_rfl) ⟨_, (by (intro w' hC; (obtain ⟨c0, c1, c2, c3, c4, c5, c6, c7, c8⟩ := (hfS.out _ (hfW.then_below hC)).2); clear hC; (try go_simp); (try with_reducible rfl); done)), _, (by (simp only [Act.put, List.setIfInBounds_toArray, List.set_cons_zero, List.set_cons_succ]; rfl)), ?_⟩
              refine lb_call (by kernel_rfl) (fun w' hC => HLo.out _) (by (intro w'; go_simp; done)) ⟨_, (by (simp only [Act.put, List.setIfInBounds_toArray, List.set_cons_zero, List.set_cons_succ]; rfl)), ?_⟩
              refine .nil ?_
              intro w5 hb5
              have hrN := hrN.below hb5
              have hfW := hfW.then_below hb5
              clear hb5
              obtain ⟨b1, hb1⟩ : ∃ b1, nx[k]? = some b1 := ⟨_, List.getElem?_eq_getElem (by rw [hRS.out.len]; omega)⟩
              have hRS := Lib.hid (hRS.out.put HY.out hb1 hF2.out)
              have q8 := hrN.cell8 hb1
              have z8 : w5.frozen? ⟨g2, o2 + k * 9 + 8, none⟩ = false := hrN.frozen _
              have hrN := hrN.put8 hb1
              have hfW := hfW.setAt g2 (o2 + k * 9 + 8) rfl (.int .i64 5)
              have HrN := Lib.hid hrN
              have HfW := Lib.hid hfW
              clear hrN hfW hb1
              go_wp2_with fail
              clear q8 z8
              generalize w5.setCell ⟨g2, o2 + k * 9 + 8, none⟩ (.int .i64 5) = w5 at *
              have hrN := HrN.out
              have hfW := HfW.out
              clear HrN HfW
              generalize nx.set k b1.conf = nx at *
              go_roundw
              case rel => exact ⟨true, k + 1, nx, rfl, by go_num, hlk, hRS, (fun h => (by cases h)), (fun h => (by cases h)), hrN, hfW⟩
              case measure => simp [intOf]; omega
          · have e : k = x.length := by omega
            subst e
            have HD : Hid (more = false → ∀ (j k : Nat) (a b : CV), j < i + 1 → x[j]? = some a → x[k]? = some b → upB a b = false ∧ lowB a b = false) := fun e3 j k' a b hj ha hb' => by
              rcases Nat.lt_or_ge j i with h1 | h1
              · exact hP.out e3 j k' a b h1 ha hb'
              · obtain rfl : j = i := by omega
                rw [HX.out] at ha
                injection ha with ha
                rw [← ha]
                exact hPk.out e3 k' b (List.getElem?_eq_some_iff.1 hb').1 hb'
            clear hPk hP
            go_wp2_with fail
            go_roundw
            case rel => exact ⟨more, i + 1, nx, rfl, by go_num, hlt, hRS, HD, hrN, hfr⟩
            case measure => simp [intOf]; omega
      · have e : i = x.length := by omega
        subst e
        cases more
        · have e2 := hRS.out.no rfl
          subst e2
          have hcl : Closes l nx := ⟨hRS.out.t, closed_of fun j k a b ha hb' => hP.out rfl j k a b (List.getElem?_eq_some_iff.1 ha).1 ha hb'⟩
          have hfin := HF2.out _ hfr
          have HCL := Lib.hid hcl
          clear hcl
          go_wp2_with fail
          go_ret
          exact ⟨A2, c2, nx, rfl, HCL.out, hrN.rebase (fun g hg => by have := (hrN.lt g hg).1; omega), hfin⟩
        · have hlx := hRS.out.len
          have hlt2 := hRS.out.yes rfl
          have hfin := HF2.out _ hfr
          have hrow3 := hrN.rebase (base' := w.heap.size) (fun g hg => by have := (hrN.lt g hg).1; omega)
          have HLX := Lib.hid hlx
          clear hlx
          go_wp2_with fail
          rw [HXL.out]
          go_roundg (mv nx)
          case measure => rw [← HMV.out]; exact hlt2
          case rel => exact ⟨A2, c2, nx, rfl, HLX.out.trans HXL.out, hRS.out.t, rfl, by rw [← HXL.out]; exact hrow3, hfin⟩
theorem closeR_any (A : Option Addr) (c : Nat) (l : List CV) (Z : Nat → Prop) (w : World) (h : Chs w Z A l) (hlen : l.length ≤ 1000000) :
    Calls Try.prog 38 #[.slice A l.length c] w fun e w' => ∃ (A' : Option Addr) (c' : Nat) (x : List CV), e = .returned (.slice A' x.length c') ∧ Closes l x ∧ Rd w' (fun b => w.heap.size ≤ b) 9 A' x.length (x.flatMap CV.cells) ∧ Below w.heap.size w w' :=
  (closeR_row A c l Z w h hlen).mono fun _ _ ⟨A', c', x, he, hx, hr, hb⟩ => ⟨A', c', x, he, hx, hr.rd.mono (fun b _ hz => (hr.lt b hz).1), hb⟩
end Go.Proofs.Ytffimpjjdhnajaa
