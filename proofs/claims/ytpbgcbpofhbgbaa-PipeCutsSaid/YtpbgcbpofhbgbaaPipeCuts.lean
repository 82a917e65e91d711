/- PipeCuts is true for every input: what is taken, however it is cut, is what was sent, parcel by parcel, but for those that were dropped. No condition beyond the row's own. -/
import Derived.Test.YtpbgcbpofhbgbaaPipeLives
import Derived.Test.YtpbgcbpofhbgbaaGrainNum
import Derived.IntWalk
namespace Go.Proofs.Ytpbgcbpofhbgbaa
open Go.RowKit

/-- byte slices in a slice -/
structure Bss (w : World) (Z : Nat → Prop) (A : Option Addr) (l : List BV) : Prop where
  rd : Rd w Z 1 A l.length (l.map BV.v)
  ok : ∀ x ∈ l, x.ok w Z
  lens : ∀ x ∈ l, x.l.length ≤ 140737488355328
  len : l.length ≤ 5864062014805
theorem Bss.fr {w w' : World} {Z S : Nat → Prop} {A : Option Addr} {l : List BV} (h : Bss w Z A l) (k : Fr S w w') (hs : ∀ b, b < w.heap.size → Z b → ¬ S b) : Bss w' Z A l :=
  ⟨h.rd.fr k hs, fun o ho => (h.ok o ho).fr k hs, h.lens, h.len⟩
theorem Bss.below {w w' : World} {Z : Nat → Prop} {A : Option Addr} {l : List BV} (h : Bss w Z A l) (k : Below w.heap.size w w') : Bss w' Z A l := h.fr (Fr.of_below k (fun _ => False)) (fun _ _ _ h => h)
def lensB (l : List BV) : Nat := (l.map fun o => o.l.length).sum
theorem lensB_take (l : List BV) (i : Nat) (hi : i < l.length) : lensB (l.take (i + 1)) = lensB (l.take i) + l[i].l.length := by
  unfold lensB
  rw [List.take_succ_eq_append_getElem hi, List.map_append, List.sum_append]
  simp
theorem lensB_le (K : Nat) : ∀ (l : List BV), (∀ o ∈ l, o.l.length ≤ K) → lensB l ≤ l.length * K
  | [], _ => by simp [lensB]
  | o :: l, h => by
    have h1 := h o (by simp)
    have h2 := lensB_le K l (fun o ho => h o (by simp [ho]))
    simp only [lensB, List.map_cons, List.sum_cons, List.length_cons, Nat.add_mul] at h2 ⊢
    omega
theorem lensB_take_le (K : Nat) (l : List BV) (i : Nat) (h : ∀ o ∈ l, o.l.length ≤ K) : lensB (l.take i) ≤ i * K := by
  have h1 := lensB_le K (l.take i) (fun o ho => h o (List.mem_of_mem_take ho))
  have h2 : (l.take i).length ≤ i := List.length_take_le _ _
  have h3 : (l.take i).length * K ≤ i * K := Nat.mul_le_mul_right _ h2
  omega
/-- the sum that the first loop has made: right while few have been seen -/
def SeenB (l : List BV) (i : Nat) (s : Int) : Prop := i ≤ 100 → s = (lensB (l.take i) : Int)
theorem seenB_step {l : List BV} {i : Nat} {s : Int} (hs : SeenB l i s) (hi : i < l.length) (h : ∀ o ∈ l, o.l.length ≤ 140737488355328) : SeenB l (i + 1) (wrap64 (s + (l[i].l.length : Int))) := by
  intro hi2
  have e := hs (by omega)
  have h1 := lensB_take_le 140737488355328 l (i + 1) h
  have h2 := lensB_take l i hi
  have h3 : (i + 1) * 140737488355328 ≤ 101 * 140737488355328 := Nat.mul_le_mul_right _ (by omega)
  rw [h2] at h1 ⊢
  rw [e, IntWalk.wrap64_in _ ⟨by omega, by omega⟩]
  omega
/-- those that are not empty -/
def fullB (l : List BV) : List BV := l.filter fun x => decide (0 < x.l.length)
/-- as parcels -/
def sentB (l : List BV) : List (List UInt8 × Bool × Bool) := l.map fun x => (x.l, false, false)
theorem bss_one (l : List BV) : ∀ u ∈ l.map BV.v, u.oneCell' = true := by
  intro u hu
  obtain ⟨x, _, rfl⟩ := List.mem_map.1 hu
  rfl
theorem bsl_info : (Try.prog.info? 23).map (fun i => (i.zero, i.size, i.bytes)) = some (some (.slice none 0 0), 1, 24) := by kernel_rfl

theorem Row.ne_row {w : World} {base base' size size' n n' c c' : Nat} {e e' : TypeId} {A A' : Option Addr} {xs xs' : List Value} (h : Row w base e size A n c xs) (h' : Row w base' e' size' A' n' c' xs') (hne : e ≠ e') : ∀ g, ablk A = some g → ablk A' ≠ some g := by
  intro g hg hg'
  rcases A' with _ | a'
  · cases hg'
  · obtain ⟨g2, off, cur, e1, _, hk, _⟩ := h'.at_ a' rfl
    subst e1
    injection hg' with hg'
    have hg2 : g2 = g := hg'
    subst hg2
    exact h.ne_blk hk hne hg
theorem fullB_snoc (l : List BV) (i : Nat) (hi : i < l.length) : fullB (l.take (i + 1)) = fullB (l.take i) ++ (if 0 < l[i].l.length then [l[i]] else []) := by
  unfold fullB
  rw [List.take_succ_eq_append_getElem hi, List.filter_append]
  congr 1
  by_cases h : 0 < l[i].l.length
  · simp [h]
  · simp [h]
theorem sum_filter : ∀ l : List BV, ((fullB l).map fun x => x.l.length).sum ≤ lensB l
  | [] => by simp [fullB, lensB]
  | x :: l => by
    have h := sum_filter l
    unfold fullB lensB at *
    rw [List.filter_cons, List.map_cons, List.sum_cons]
    split
    · rw [List.map_cons, List.sum_cons]; omega
    · omega
theorem fullB_len (l : List BV) : (fullB l).length ≤ l.length := List.length_filter_le _ _
theorem dropI_in (f : List BV) (d : Nat) (h : d < f.length) : dropI (sentB f) (d : Int) = (sentB (f.take d ++ f.drop (d + 1)), true) := by
  unfold dropI sentB
  rw [if_pos]
  · rw [Int.toNat_natCast, List.map_append, List.map_take, List.map_drop]
  · refine ⟨by omega, by simpa using h, ?_⟩
    rw [Int.toNat_natCast, List.getD_eq_getElem?_getD, List.getElem?_map, List.getElem?_eq_getElem h]
    rfl
theorem dropI_out (f : List BV) (d : Nat) (h : ¬ d < f.length) : dropI (sentB f) (d : Int) = (sentB f, false) := by
  unfold dropI
  rw [if_neg]
  rintro ⟨_, h2, _⟩
  simp [sentB] at h2
  omega
theorem cut_sum (f : List BV) (d : Nat) : ((f.take d ++ f.drop (d + 1)).map fun x => x.l.length).sum ≤ (f.map fun x => x.l.length).sum := by
  have h : ∀ (f : List BV) (d : Nat), ((f.take d).map fun x => x.l.length).sum + ((f.drop (d + 1)).map fun x => x.l.length).sum ≤ (f.map fun x => x.l.length).sum := by
    intro f
    induction f with
    | nil => simp
    | cons x f ih =>
      intro d
      cases d with
      | zero => simp
      | succ d =>
        have := ih d
        simp only [List.take_succ_cons, List.drop_succ_cons, List.map_cons, List.sum_cons] at this ⊢
        omega
  rw [List.map_append, List.sum_append]
  exact h f d
/-- all bytes of byte slices -/
def wantB (f : List BV) : List UInt8 := f.flatMap fun x => x.l
theorem want_snoc (f : List BV) (i : Nat) (hi : i < f.length) : wantB (f.take (i + 1)) = wantB (f.take i) ++ f[i].l := by
  unfold wantB
  rw [List.take_succ_eq_append_getElem hi, List.flatMap_append]
  simp
theorem want_sum : ∀ f : List BV, (wantB f).length = (f.map fun x => x.l.length).sum
  | [] => rfl
  | x :: f => by
    have := want_sum f
    unfold wantB at *
    rw [List.flatMap_cons, List.length_append, List.map_cons, List.sum_cons, this]
theorem want_len (f : List BV) (i : Nat) (hi : i < f.length) : (wantB (f.take i)).length + f[i].l.length ≤ (f.map fun x => x.l.length).sum := by
  have h1 := want_snoc f i hi
  have h2 : wantB f = wantB (f.take (i + 1)) ++ wantB (f.drop (i + 1)) := by unfold wantB; rw [← List.flatMap_append, List.take_append_drop]
  have h3 := want_sum f
  rw [h2, h1, List.length_append, List.length_append] at h3
  omega
/-- what the loop over left keeps -/
def wtRel (f : List BV) (w : World) (pb : Nat) (AF : Option Addr) (cF : Nat) (Ap : Option Addr) (cp : Nat) (ls : List PV) (wv iv : Value) (wr : World) : Prop :=
  ∃ (i : Nat) (L : List UInt8) (Aw : Option Addr) (cw : Nat), i ≤ f.length ∧ iv = .int .i64 (i : Int) ∧ wv = .slice Aw L.length cw ∧ OwB wr w.heap.size (.slice Aw L.length cw) L ∧ Hid (L = wantB (f.take i)) ∧
    Row wr w.heap.size 23 1 AF f.length cF (f.map BV.v) ∧ PipeAt wr w.heap.size pb (fun b => ablk Aw = some b) Ap cp ls false ∧ Below w.heap.size w wr
theorem flat_dropS : ∀ (S : List (List UInt8 × Bool × Bool)) (n : Nat), flatP (dropS S n) = (flatP S).drop n
  | [], n => by simp [dropS, flatP]
  | (l, b, d) :: xs, n => by
    have ih := flat_dropS xs (n - l.length)
    rw [dropS]
    split
    · rename_i h; subst h; simp
    · split
      · unfold flatP
        rw [List.flatMap_cons, List.flatMap_cons, List.drop_append_of_le_length (by show n ≤ l.length; omega)]
      · rw [ih]
        unfold flatP
        have h0 : List.drop n (l, b, d).1 = [] := List.drop_of_length_le (show l.length ≤ n by omega)
        rw [List.flatMap_cons, List.drop_append, h0, List.nil_append]
theorem flat_sent (f : List BV) : flatP (sentB f) = wantB f := by
  unfold flatP sentB wantB
  rw [List.flatMap_map]
/-- what the loop over cuts keeps -/
def ctRel (n : Nat) (L : List UInt8) (Aw : Option Addr) (cw : Nat) (w : World) (pb : Nat) (gv iv : Value) (wr : World) : Prop :=
  ∃ (j : Nat) (G : List UInt8) (Ag : Option Addr) (cg : Nat) (Ap : Option Addr) (cp : Nat) (ls : List PV), j ≤ n ∧ iv = .int .i64 (j : Int) ∧ gv = .slice Ag G.length cg ∧ OwB wr w.heap.size (.slice Ag G.length cg) G ∧ OwB wr w.heap.size (.slice Aw L.length cw) L ∧
    (∀ b, ablk Ag = some b → ablk Aw ≠ some b) ∧ PipeAt wr w.heap.size pb (fun b => ablk Ag = some b) Ap cp ls false ∧ Hid (G ++ flatP (ls.map PV.s) = L) ∧ Below w.heap.size w wr
/-- what the drops keep -/
def dpRel (l : List BV) (n : Nat) (w : World) (pb : Nat) (lv iv : Value) (wr : World) : Prop :=
  ∃ (i : Nat) (f : List BV) (A : Option Addr) (c : Nat) (Ap : Option Addr) (cp : Nat) (ls : List PV), i ≤ n ∧ iv = .int .i64 (i : Int) ∧ lv = .slice A f.length c ∧ Row wr w.heap.size 23 1 A f.length c (f.map BV.v) ∧ (∀ x ∈ f, x ∈ l) ∧ f.length ≤ l.length ∧ (f.map fun x => x.l.length).sum ≤ lensB l ∧
    PipeAt wr w.heap.size pb (fun b => ablk A = some b) Ap cp ls false ∧ Hid (ls.map PV.s = sentB f) ∧ Below w.heap.size w wr
/-- what the sends leave -/
def sdRel (l : List BV) (w : World) (pb : Nat) (lv iv : Value) (wr : World) : Prop :=
  ∃ (i : Nat) (A : Option Addr) (c : Nat) (Ap : Option Addr) (cp : Nat) (ls : List PV), i ≤ l.length ∧ iv = .int .i64 (i : Int) ∧ lv = .slice A (fullB (l.take i)).length c ∧ Row wr w.heap.size 23 1 A (fullB (l.take i)).length c ((fullB (l.take i)).map BV.v) ∧
    PipeAt wr w.heap.size pb (fun b => ablk A = some b) Ap cp ls false ∧ Hid (ls.map PV.s = sentB (fullB (l.take i))) ∧ Below w.heap.size w wr

set_option maxRecDepth 100000 in
set_option maxHeartbeats 2000000 in
theorem pipeCuts_near (A : Option Addr) (c : Nat) (l : List BV) (gA kA : Option Addr) (gc kc : Nat) (gl kl : List UInt8) (w : World) (h : Bss w (fun b => b < w.heap.size) A l) (hg : By w (fun b => b < w.heap.size) gA gl) (hk : By w (fun b => b < w.heap.size) kA kl)
    (n1 : l.length ≤ 100) (n2 : lensB l ≤ 10000) (n3 : gl.length ≤ 50) (n4 : kl.length ≤ 500) :
    Calls Try.prog 3 #[.slice A l.length c, .slice gA gl.length gc, .slice kA kl.length kc] w fun e w' => e = .returned (.bool true) ∧ Below w.heap.size w w' := by
  go_enter Try.func3, Try.ntmps3
  go_wp2_with fail
  go_loopw [7, 25] (fun sv iv wr => ∃ (i : Nat) (s : Int), i ≤ l.length ∧ iv = .int .i64 (i : Int) ∧ sv = .int .i64 s ∧ SeenB l i s ∧ w = wr) (fun _ iv _ => l.length - (intOf iv).toNat)
  case atStart => exact ⟨0, 0, Nat.zero_le _, rfl, rfl, by intro _; simp [lensB], rfl⟩
  case round =>
    obtain ⟨i, s, hi, rfl, rfl, hs, rfl⟩ := hrel
    by_cases hlt : i < l.length
    · obtain ⟨b, off, rfl, _, _, hc⟩ := h.rd.atm hlt
      have hxl := h.lens _ (List.getElem_mem hlt)
      have hst := Lib.hid (seenB_step hs hlt h.lens)
      generalize l[i] = x at *
      obtain ⟨xA, xc, xl⟩ := x
      dsimp only at *
      replace hc : w.cell? ⟨b, off + i, none⟩ = some (.slice xA xl.length xc) := hc
      go_wp2_with fail
      go_roundw
      case rel => exact ⟨i + 1, _, hlt, by go_num, rfl, hst.out, trivial⟩
      case measure => simp [intOf]; omega
    · have e : i = l.length := by omega
      subst e
      have hss := hs n1
      rw [List.take_length] at hss
      subst hss
      clear hs hlt
      have m1 : (lensB l : Int) ≤ 10000 := by omega
      have m2 : (l.length : Int) ≤ 100 := by omega
      have m3 : (gl.length : Int) ≤ 50 := by omega
      have m4 : (kl.length : Int) ≤ 500 := by omega
      go_wp2_with fail
      refine (pipeNew_any _).mono ?_
      rintro e w1 ⟨rfl, rfl⟩
      have hp1 := PipeAt.new w (base := w.heap.size) (X := fun b => ablk none = some b)
      have hl1 : Below w.heap.size w (w.alloc (.cells #[.slice none 0 0, .bool false] 48)) := (Below.refl _ _).alloc (Nat.le_refl _) _
      go_wp2_with fail
      obtain ⟨i0, hi0, hz0, hz1, hz2⟩ := info_parts bsl_info
      go_loopw [11, 55] (fun lv iv wr => sdRel l w w.heap.size lv iv wr) (fun _ iv _ => l.length - (intOf iv).toNat)
      case atStart => exact ⟨0, none, 0, none, 0, [], Nat.zero_le _, rfl, by simp [fullB], Row.none_ _ _ _ _, hp1, rfl, hl1⟩
      case round =>
        obtain ⟨i, AL, cL, Ap, cp, ls, hi, rfl, rfl, hrow, hp, hS, hlow⟩ := hrel
        have hsr := hlow.size
        have hle := fullB_len (l.take i)
        have hlt2 := List.length_take_le i l
        by_cases hlt : i < l.length
        · obtain ⟨b, off, rfl, _, _, hc⟩ := (h.below hlow).rd.atm hlt
          have hxok := ((h.below hlow).ok _ (List.getElem_mem hlt)).by_
          have hxl := h.lens _ (List.getElem_mem hlt)
          have hsn := fullB_snoc l i hlt
          have hnl : ls.length = (fullB (l.take i)).length := by have := congrArg List.length hS.out; simpa [sentB] using this
          have hxx := (h.below hlow).ok _ (List.getElem_mem hlt)
          have HSN := Lib.hid hsn
          clear hsn
          generalize l[i] = x at *
          obtain ⟨xA, xc, xl⟩ := x
          dsimp only at *
          replace hc : wr.cell? ⟨b, off + i, none⟩ = some (.slice xA xl.length xc) := hc
          go_wp2_with fail
          refine (pipeSend_any w.heap.size w.heap.size _ Ap cp ls false wr hp xA xc xl _ hxok (fun b hb => (hrow.lt b hb).2) hsr (by omega) hxl).mono ?_
          rintro e w2 ⟨rfl, h2⟩
          have hrow2 := hrow.fr h2.fr (fun g' hg' e => by
            rcases e with rfl | e
            · exact hrow.ne_blk hp.blk (by decide) hg'
            · exact hrow.ne_row hp.row (by decide) g' hg' e)
          have hlow2 : Below w.heap.size w w2 := hlow.trans (h2.fr.below hsr (fun k hk e => by
            rcases e with rfl | e
            · omega
            · have := (hp.row.lt k e).1; omega))
          have hs2 := h2.fr.size
          obtain ⟨A2, c2, ls2, hp2, hS2, _⟩ := h2.at_
          by_cases hx0 : 0 < xl.length
          · rw [if_pos ⟨rfl, hx0⟩] at hS2
            rw [if_pos hx0] at HSN
            have e1 : (!false && decide (0 < xl.length)) = true := by simp [hx0]
            have e2 : (0 : Int) < (xl.length : Int) := by omega
            rw [e1]
            clear e1
            have hpx := (hp2.below ((Below.refl _ _).alloc (Nat.le_refl _) (.cells #[.slice xA xl.length xc] 23))).addX (Y := fun b => (w2.alloc (.cells #[.slice xA xl.length xc] 23)).heap.size ≤ b) (fun b hb => hb)
            have hrx := hrow2.alloc (.cells #[.slice xA xl.length xc] 23)
            go_wp2_with (at_builtin; refine wpList_append_row _ rfl (.tmp 69) (.tmp 71) 22 rfl w.heap.size 23 i0 _ 1 24 Try.underlying22 hi0 hz0 hz1 hz2 rfl (by omega) rfl hrx rfl (Rd.lit (xs := [.slice xA xl.length xc]) (n := 1) rfl rfl (by simp)) (by simp [Value.oneCell']) (by simp only [maxLen]; omega) (by omega) (by simp; omega) ?_; intro A3 c3 w3 hrow3 hg3 hat3)
            have f3 : Fr (fun x => ablk AL = some x) (w2.alloc (.cells #[.slice xA xl.length xc] 23)) w3 := Fr.of_grown hg3 (fun _ _ e => e)
            have hp3 := (hpx.fr f3 (fun e => hrx.ne_blk hpx.blk (by decide) e) (fun g' hg' e => hrx.ne_row hpx.row (by decide) g' e hg') (fun b _ _ _ hx e => hx (.inl e))).lessX (X' := fun b => ablk A3 = some b) (fun b hb => hat3 b hb)
            go_roundw
            case rel =>
              refine ⟨i + 1, A3, c3, A2, c2, ls2, hlt, by go_num, ?_, ?_, hp3, ?_, (hlow2.alloc (by omega) _).trans (f3.below (by simp; omega) (fun k hk e => by have := (hrow.lt k e).1; omega))⟩
              · rw [HSN.out, List.length_append]; rfl
              · rw [HSN.out, List.length_append, List.map_append]
                exact hrow3
              · show _ = _
                rw [hS2.out, hS.out, HSN.out]
                unfold sentB
                rw [List.map_append]
                rfl
            case measure => simp [intOf]; omega
          · rw [if_neg (fun hh => hx0 hh.2)] at hS2
            rw [if_neg hx0, List.append_nil] at HSN
            have e1 : (!false && decide (0 < xl.length)) = false := by simp [hx0]
            have e2 : ¬ (0 : Int) < (xl.length : Int) := by omega
            rw [e1]
            clear e1
            go_wp2_with fail
            go_roundw
            case rel =>
              refine ⟨i + 1, AL, cL, A2, c2, ls2, hlt, by go_num, by rw [HSN.out], by rw [HSN.out]; exact hrow2, hp2, ?_, hlow2⟩
              show _ = _
              rw [hS2.out, hS.out, HSN.out]
            case measure => simp [intOf]; omega
        · have e : i = l.length := by omega
          subst e
          rw [List.take_length] at hS hrow
          clear hlt hlt2
          go_wp2_with fail
          go_loopw [11, 76] (fun lv iv wr => dpRel l gl.length w w.heap.size lv iv wr) (fun _ iv _ => gl.length - (intOf iv).toNat)
          case atStart =>
            refine ⟨0, fullB l, AL, cL, Ap, cp, ls, Nat.zero_le _, rfl, by rw [List.take_length], hrow, fun x hx => (List.mem_filter.1 hx).1, fullB_len l, ?_, hp, hS, hlow⟩
            exact sum_filter l
          case round =>
            clear hrow hp hS hlow hsr hle
            obtain ⟨j, f, AF, cF, Aq, cq, lq, hj, rfl, rfl, hrow, hfl, hfn, hfs, hp, hS, hlow⟩ := hrel
            have hsr := hlow.size
            have hnl : lq.length = f.length := by have := congrArg List.length hS.out; simpa [sentB] using this
            by_cases hlt : j < gl.length
            · obtain ⟨b, off, rfl, _, _, hc⟩ := Rd.atm (hg.below hlow) hlt
              have hdt := gl[j].toNat_lt
              generalize gl[j] = d at *
              unfold bv at hc
              by_cases hd : d.toNat < f.length
              · have hdi := dropI_in f d.toNat hd
                have hdr := pipeDrop_any w.heap.size w.heap.size _ Aq cq lq false wr hp (d.toNat : Int) (by omega) hsr
                rw [hS.out, hdi] at hdr
                have HDR := Lib.hid hdr
                clear hdr hdi
                go_wp2_with fail
                refine HDR.out.mono ?_
                rintro e w2 ⟨rfl, h2⟩
                obtain ⟨A2, c2, ls2, hp2, hS2, _⟩ := h2.at_
                have hrow2 := hrow.fr h2.fr (fun g' hg' e => by
                  rcases e with rfl | e
                  · exact hrow.ne_blk hp.blk (by decide) hg'
                  · exact hrow.ne_row hp.row (by decide) g' hg' e)
                have hlow2 : Below w.heap.size w w2 := hlow.trans (h2.fr.below hsr (fun k hk e => by
                  rcases e with rfl | e
                  · omega
                  · have := (hp.row.lt k e).1; omega))
                have hs2 := hlow2.size
                have rowE : Row ((w2.alloc (.cells #[] 23)).drew) w.heap.size 23 1 (some ⟨w2.heap.size, 0, none⟩) 0 0 [] :=
                  ⟨by simp, Nat.le_refl _, by simp [maxLen], fun hh => (by cases hh), fun a ha => by injection ha with ha; subst ha; exact ⟨w2.heap.size, 0, _, rfl, hs2, (Blk.new w2 23 #[]).drew, by simp, by simp⟩⟩
                have hW2 : Below w2.heap.size w2 ((w2.alloc (.cells #[] 23)).drew) := ((Below.refl _ _).alloc (Nat.le_refl _) _).drew
                have hzW : (((w2.alloc (.cells #[] 23)).drew)).heap.size = w2.heap.size + 1 := by simp [World.drew]
                obtain ⟨gF, oF, rfl, hgF, hgF2⟩ := hrow2.addr (by omega)
                have rdH : Rd ((w2.alloc (.cells #[] 23)).drew) (fun b => b = gF) 1 (some ⟨gF, oF, none⟩) d.toNat ((f.take d.toNat).map BV.v) := by
                  have h1 := (hrow2.head (k := d.toNat) (by omega)).rd
                  rw [Nat.mul_one, ← List.map_take] at h1
                  exact (h1.below hW2).mono (fun b _ hb => by simpa [ablk] using hb.symm)
                have htl := (hrow2.tail (k := d.toNat + 1) (by omega)).rd
                rw [Nat.mul_one, ← List.map_drop] at htl
                have hpx := (hp2.below hW2)
                have hroom := hrow2.room
                have hcap := hrow2.cap
                have hmx : maxLen = 9223372036854775807 := rfl
                rw [hmx] at hcap
                have hwr : IntKind.i64.wrap ((d.toNat : Int) + 1) = (d.toNat : Int) + 1 := IntWalk.i64_in _ (by omega)
                have j0 : (0 : Int) ≤ (d.toNat : Int) + 1 := by omega
                have j9 : (0 : Int) ≤ (d.toNat : Int) := by omega
                have j8 : (d.toNat : Int) ≤ (d.toNat : Int) + 1 := by omega
                have j1 : (d.toNat : Int) ≤ (cF : Int) := by omega
                have j2 : (d.toNat : Int) < (f.length : Int) := by omega
                have j3 : (d.toNat : Int) + 1 ≤ (f.length : Int) := by omega
                have j4 : ¬ (f.length : Int) ≤ (d.toNat : Int) := by omega
                have j5 : (f.length : Int) ≤ (cF : Int) := by omega
                have HROWE := Lib.hid rowE
                have HRDH := Lib.hid rdH
                have hlen1 : f.length ≤ 100 := by omega
                have HL : Hid ((f.take d.toNat ++ f.drop (d.toNat + 1)).length = 0 + d.toNat + (f.length - (d.toNat + 1))) := by show _ = _; rw [List.length_append, List.length_take, List.length_drop]; omega
                clear rowE rdH
                by_cases hcc : cF = d.toNat + 1
                · rw [if_pos hcc] at htl
                  subst hcc
                  have j7 : (f.length : Int) ≤ (d.toNat : Int) + 1 := by omega
                  have HTL : Hid (Rd w2 (fun b => b = gF) 1 (some ⟨gF, oF, none⟩) 0 (([] : List BV).map BV.v)) := by
                    exact Rd.nil
                  clear htl
                  go_wp2_with fail
                  go_region_law
                    (first
                    | (refine step_append_row _ rfl (.tmp 89) (.tmp 92) 22 rfl w.heap.size 23 i0 _ 1 24 Try.underlying22 hi0 hz0 hz1 hz2 rfl (by omega) rfl HROWE.out rfl HRDH.out (bss_one _) (by simp only [maxLen]; omega) (by omega) (by omega) ?_; intro A3 c3 w3 hrow3 hg3 hat3; have hrow3' : Row w3 w.heap.size 23 1 A3 d.toNat c3 ((f.take d.toNat).map BV.v) := (by rw [Nat.zero_add, List.nil_append] at hrow3; exact hrow3); have f3 : Fr (fun x => w2.heap.size ≤ x) w2 w3 := ((Fr.of_below hW2 (fun x => w2.heap.size ≤ x)).trans (Fr.of_grown hg3 (S := fun x => w2.heap.size ≤ x) (fun k _ e => by injection e with e; exact Nat.le_of_eq e)) (fun _ _ h => h)))
                    | (refine step_append_row _ rfl (.tmp 93) (.tmp 97) 22 rfl w.heap.size 23 i0 _ 1 24 Try.underlying22 hi0 hz0 hz1 hz2 rfl (by omega) rfl hrow3' rfl (HTL.out.fr f3 (fun b _ hb e => by omega)) (bss_one _) (by simp only [maxLen]; omega) (by omega) (by have := f3.size; omega) ?_; intro A4 c4 w4 hrow4 hg4 hat4))
                  all_goals
                    have hA3 : ∀ g, ablk A3 = some g → w2.heap.size ≤ g := fun g hg => by
                      rcases hat3 g hg with e | e
                      · injection e with e; exact Nat.le_of_eq e
                      · omega
                    have hA4 : ∀ g, ablk A4 = some g → w2.heap.size ≤ g := fun g hg => by
                      rcases hat4 g hg with e | e
                      · exact hA3 g e
                      · have := f3.size; omega
                    have f4 : Fr (fun x => w2.heap.size ≤ x) w2 w4 := f3.trans (Fr.of_grown hg4 (S := fun x => w2.heap.size ≤ x) (fun k _ e => hA3 k e)) (fun _ _ h => h)
                    have hp4 := ((hp2.addX (Y := fun b => w2.heap.size ≤ b) (fun b hb => hb)).fr f4 (fun e => by have := hp2.blk.lt; omega) (fun g' hg' e => by have := (hp2.row.lt g' hg').2; omega) (fun b _ _ _ hx e => hx (.inr e))).lessX (X' := fun b => ablk A4 = some b) (fun b hb => .inr (hA4 b hb))
                    have hlow4 : Below w.heap.size w w4 := hlow2.trans (f4.below hs2 (fun k hk e => by omega))
                    have hdrop : f.drop (d.toNat + 1) = [] := List.drop_of_length_le (by omega)
                    have HLV : Hid (Value.slice A4 d.toNat c4 = .slice A4 (f.take d.toNat ++ f.drop (d.toNat + 1)).length c4) := by show _ = _; rw [HL.out, show 0 + d.toNat + (f.length - (d.toNat + 1)) = d.toNat by omega]
                    have HR4 : Hid (Row w4 w.heap.size 23 1 A4 (f.take d.toNat ++ f.drop (d.toNat + 1)).length c4 ((f.take d.toNat ++ f.drop (d.toNat + 1)).map BV.v)) := by
                      show Row _ _ _ _ _ _ _ _
                      rw [HL.out, show 0 + d.toNat + (f.length - (d.toNat + 1)) = d.toNat by omega, hdrop, List.append_nil]
                      simpa using hrow4
                    clear hdrop
                    go_wp2_with fail
                    go_roundw
                    case rel => exact ⟨j + 1, f.take d.toNat ++ f.drop (d.toNat + 1), A4, c4, A2, c2, ls2, hlt, by go_num, HLV.out, HR4.out, fun x hx => hfl x ((List.mem_append.1 hx).elim List.mem_of_mem_take List.mem_of_mem_drop), by rw [HL.out]; omega, Nat.le_trans (cut_sum f d.toNat) hfs, hp4, hS2, hlow4⟩
                    case measure => simp [intOf]; omega
                · rw [if_neg hcc] at htl
                  have HTL : Hid (Rd w2 (fun b => b = gF) 1 (some ⟨gF, oF + (d.toNat + 1), none⟩) (f.length - (d.toNat + 1)) ((f.drop (d.toNat + 1)).map BV.v)) := by
                    rw [Option.map_some, add_none] at htl
                    exact htl.mono (fun b _ hb => by simpa [ablk] using hb.symm)
                  clear htl
                  go_wp2_with fail
                  go_region_law
                    (first
                    | (refine step_append_row _ rfl (.tmp 89) (.tmp 92) 22 rfl w.heap.size 23 i0 _ 1 24 Try.underlying22 hi0 hz0 hz1 hz2 rfl (by omega) rfl HROWE.out rfl HRDH.out (bss_one _) (by simp only [maxLen]; omega) (by omega) (by omega) ?_; intro A3 c3 w3 hrow3 hg3 hat3; have hrow3' : Row w3 w.heap.size 23 1 A3 d.toNat c3 ((f.take d.toNat).map BV.v) := (by rw [Nat.zero_add, List.nil_append] at hrow3; exact hrow3); have f3 : Fr (fun x => w2.heap.size ≤ x) w2 w3 := ((Fr.of_below hW2 (fun x => w2.heap.size ≤ x)).trans (Fr.of_grown hg3 (S := fun x => w2.heap.size ≤ x) (fun k _ e => by injection e with e; exact Nat.le_of_eq e)) (fun _ _ h => h)))
                    | (refine step_append_row _ rfl (.tmp 93) (.tmp 97) 22 rfl w.heap.size 23 i0 _ 1 24 Try.underlying22 hi0 hz0 hz1 hz2 rfl (by omega) rfl hrow3' rfl (HTL.out.fr f3 (fun b _ hb e => by omega)) (bss_one _) (by simp only [maxLen]; omega) (by omega) (by have := f3.size; omega) ?_; intro A4 c4 w4 hrow4 hg4 hat4))
                  all_goals
                    have hA3 : ∀ g, ablk A3 = some g → w2.heap.size ≤ g := fun g hg => by
                      rcases hat3 g hg with e | e
                      · injection e with e; exact Nat.le_of_eq e
                      · omega
                    have hA4 : ∀ g, ablk A4 = some g → w2.heap.size ≤ g := fun g hg => by
                      rcases hat4 g hg with e | e
                      · exact hA3 g e
                      · have := f3.size; omega
                    have f4 : Fr (fun x => w2.heap.size ≤ x) w2 w4 := f3.trans (Fr.of_grown hg4 (S := fun x => w2.heap.size ≤ x) (fun k _ e => hA3 k e)) (fun _ _ h => h)
                    have hp4 := ((hp2.addX (Y := fun b => w2.heap.size ≤ b) (fun b hb => hb)).fr f4 (fun e => by have := hp2.blk.lt; omega) (fun g' hg' e => by have := (hp2.row.lt g' hg').2; omega) (fun b _ _ _ hx e => hx (.inr e))).lessX (X' := fun b => ablk A4 = some b) (fun b hb => .inr (hA4 b hb))
                    have hlow4 : Below w.heap.size w w4 := hlow2.trans (f4.below hs2 (fun k hk e => by omega))
                    have HLV : Hid (Value.slice A4 (d.toNat + (f.length - (d.toNat + 1))) c4 = .slice A4 (f.take d.toNat ++ f.drop (d.toNat + 1)).length c4) := by show _ = _; rw [HL.out, Nat.zero_add]
                    have HR4 : Hid (Row w4 w.heap.size 23 1 A4 (f.take d.toNat ++ f.drop (d.toNat + 1)).length c4 ((f.take d.toNat ++ f.drop (d.toNat + 1)).map BV.v)) := by
                      show Row _ _ _ _ _ _ _ _
                      rw [HL.out, Nat.zero_add, List.map_append]
                      exact hrow4
                    go_wp2_with fail
                    go_roundw
                    case rel => exact ⟨j + 1, f.take d.toNat ++ f.drop (d.toNat + 1), A4, c4, A2, c2, ls2, hlt, by go_num, HLV.out, HR4.out, fun x hx => hfl x ((List.mem_append.1 hx).elim List.mem_of_mem_take List.mem_of_mem_drop), by rw [HL.out]; omega, Nat.le_trans (cut_sum f d.toNat) hfs, hp4, hS2, hlow4⟩
                    case measure => simp [intOf]; omega
              · have hdi := dropI_out f d.toNat hd
                have hdr := pipeDrop_any w.heap.size w.heap.size _ Aq cq lq false wr hp (d.toNat : Int) (by omega) hsr
                rw [hS.out, hdi] at hdr
                have HDR := Lib.hid hdr
                clear hdr hdi
                go_wp2_with fail
                refine HDR.out.mono ?_
                rintro e w2 ⟨rfl, h2⟩
                obtain ⟨A2, c2, ls2, hp2, hS2, _⟩ := h2.at_
                have hrow2 := hrow.fr h2.fr (fun g' hg' e => by
                  rcases e with rfl | e
                  · exact hrow.ne_blk hp.blk (by decide) hg'
                  · exact hrow.ne_row hp.row (by decide) g' hg' e)
                have hlow2 : Below w.heap.size w w2 := hlow.trans (h2.fr.below hsr (fun k hk e => by
                  rcases e with rfl | e
                  · omega
                  · have := (hp.row.lt k e).1; omega))
                go_wp2_with fail
                go_roundw
                case rel => exact ⟨j + 1, f, AF, cF, A2, c2, ls2, hlt, by go_num, rfl, hrow2, hfl, hfn, hfs, hp2, hS2, hlow2⟩
                case measure => simp [intOf]; omega
            · have e : j = gl.length := by omega
              subst e
              clear hlt
              go_wp2_with fail
              go_loopw [17, 102] (fun wv iv wr => wtRel f w w.heap.size AF cF Aq cq lq wv iv wr) (fun _ iv _ => f.length - (intOf iv).toNat)
              case atStart => exact ⟨0, [], none, 0, Nat.zero_le _, rfl, rfl, OwB.nil _ _, by show _ = _; simp [wantB], hrow, hp.lessX (fun b hb => by cases hb), hlow⟩
              case round =>
                clear hrow hp hlow hsr
                obtain ⟨i, L, Aw, cw, hi, rfl, rfl, hown, hL, hrow, hp, hlow⟩ := hrel
                have hsr := hlow.size
                by_cases hlt : i < f.length
                · obtain ⟨g', off', rfl, hgb, hgl, hcells⟩ : ∃ g' off', AF = some ⟨g', off', none⟩ ∧ w.heap.size ≤ g' ∧ g' < wr.heap.size ∧ wr.cell? ⟨g', off' + i, none⟩ = some f[i].v := by
                    obtain ⟨g', off', rfl, h1, h2⟩ := hrow.addr (by omega)
                    exact ⟨g', off', rfl, h1, h2, hrow.cell (by rw [List.getElem?_map, List.getElem?_eq_getElem hlt]; rfl)⟩
                  have hxo := ((h.below hlow).ok _ (hfl _ (List.getElem_mem hlt))).by_
                  have hst := want_snoc f i hlt
                  have hsu := want_len f i hlt
                  have HST := Lib.hid hst
                  have hLl := congrArg List.length hL.out
                  clear hst
                  generalize f[i] = x at *
                  obtain ⟨xA, xc, xl⟩ := x
                  dsimp only at *
                  replace hcells : wr.cell? ⟨g', off' + i, none⟩ = some (.slice xA xl.length xc) := hcells
                  go_wp2_with (at_builtin; refine wpList_append_by rfl (.tmp 106) (.tmp 107) rfl (v := .slice Aw L.length cw) rfl hown rfl hxo (by omega) hsr ?_; intro L3 A3 c3 w3 hL3 hown3 hg3 hat3)
                  have f3 : Fr (fun x => ablk Aw = some x) wr w3 := Fr.of_grown hg3 (fun k _ e => by rcases Aw with _ | a2; cases e; exact e)
                  have hor : Row wr w.heap.size 5 1 Aw L.length cw (L.map bv) := Row.of_own hown
                  have hrow3 := hrow.fr f3 (fun g1 e1 e2 => hor.ne_row hrow (by decide) g1 e2 e1)
                  have hp3 := ((hp.addX (Y := fun b => wr.heap.size ≤ b) (fun b hb => hb)).fr f3 (fun e => hor.ne_blk hp.blk (by decide) e) (fun g1 e1 e2 => hor.ne_row hp.row (by decide) g1 e2 e1) (fun b _ _ _ hx e => hx (.inl e))).lessX (X' := fun b => ablk A3 = some b) (fun b hb => by
                    rcases A3 with _ | a3
                    · cases hb
                    · rcases hat3 with e | e
                      · left
                        rcases Aw with _ | a2
                        · simp [Value.ownBlock] at e
                        · simp [Value.ownBlock] at e
                          simp [ablk] at hb ⊢
                          omega
                      · right
                        simp [Value.ownBlock] at e
                        simp [ablk] at hb
                        omega)
                  have hlow3 : Below w.heap.size w w3 := hlow.trans (f3.below hsr (fun k hk e => by have := (hor.lt k e).1; omega))
                  go_roundw
                  case rel => exact ⟨i + 1, L3, A3, c3, hlt, by go_num, rfl, hown3, by show _ = _; rw [hL3.out, hL.out, HST.out], hrow3, hp3, hlow3⟩
                  case measure => simp [intOf]; omega
                · have e : i = f.length := by omega
                  subst e
                  rw [List.take_length] at hL
                  have hLn : L.length ≤ 10000 := by rw [hL.out, want_sum]; omega
                  clear hlt
                  go_wp2_with fail
                  go_loopw [18, 112] (fun gv iv wr => ctRel kl.length L Aw cw w w.heap.size gv iv wr) (fun _ iv _ => kl.length - (intOf iv).toNat)
                  case atStart => exact ⟨0, [], none, 0, Aq, cq, lq, Nat.zero_le _, rfl, rfl, OwB.nil _ _, hown, fun b hb => (by cases hb), hp.lessX (fun b hb => by cases hb), by show _ = _; rw [hS.out, flat_sent, hL.out, List.nil_append], hlow⟩
                  case round =>
                    clear hrow hp hlow hsr hown
                    obtain ⟨j, G, Ag, cg, Ap, cp, lp, hj2, rfl, rfl, hgo, hown, hap, hp, hGL, hlow⟩ := hrel
                    have hsr := hlow.size
                    have hGn := congrArg List.length hGL.out
                    rw [List.length_append] at hGn
                    by_cases hlt : j < kl.length
                    · obtain ⟨b, off, rfl, _, _, hc⟩ := Rd.atm (hk.below hlow) hlt
                      have hdt := kl[j].toNat_lt
                      generalize kl[j] = d at *
                      unfold bv at hc
                      have hor : Row wr w.heap.size 5 1 Aw L.length cw (L.map bv) := Row.of_own hown
                      have hog : Row wr w.heap.size 5 1 Ag G.length cg (G.map bv) := Row.of_own hgo
                      go_wp2_with fail
                      refine (pipeTake_any w.heap.size w.heap.size _ Ap cp lp false wr hp (d.toNat : Int) (by omega) (by omega) hsr).mono ?_
                      rintro e w2 ⟨A5, c5, l5, rfl, hl5, ho5, h2⟩
                      obtain ⟨A2, c2, ls2, hp2, hS2, _⟩ := h2.at_
                      have hown2 := hown.fr h2.fr (fun g1 e1 e2 => by
                        have e1' : ablk Aw = some g1 := by rcases Aw with _ | a; cases e1; exact e1
                        rcases e2 with rfl | e2
                        · exact hor.ne_blk hp.blk (by decide) e1'
                        · exact hor.ne_row hp.row (by decide) g1 e1' e2)
                      have hgo2 := hgo.fr h2.fr (fun g1 e1 e2 => by
                        have e1' : ablk Ag = some g1 := by rcases Ag with _ | a; cases e1; exact e1
                        rcases e2 with rfl | e2
                        · exact hog.ne_blk hp.blk (by decide) e1'
                        · exact hog.ne_row hp.row (by decide) g1 e1' e2)
                      have hlow2 : Below w.heap.size w w2 := hlow.trans (h2.fr.below hsr (fun k hk e => by
                        rcases e with rfl | e
                        · omega
                        · have := (hp.row.lt k e).1; omega))
                      have hs2 := hlow2.size
                      have hs12 := h2.fr.size
                      have hl5n : l5.length ≤ (flatP (lp.map PV.s)).length := by rw [hl5.out, List.length_take]; omega
                      have hog2 : Row w2 w.heap.size 5 1 Ag G.length cg (G.map bv) := Row.of_own hgo2
                      go_wp2_with (at_builtin; refine wpList_append_by rfl (.tmp 116) (.tmp 120) rfl (v := .slice Ag G.length cg) rfl hgo2 rfl ho5.rd (by omega) hs2 ?_; intro L3 A3 c3 w3 hL3 hown3 hg3 hat3)
                      have f3 : Fr (fun x => ablk Ag = some x) w2 w3 := Fr.of_grown hg3 (fun k _ e => by rcases Ag with _ | a2; cases e; exact e)
                      have hA3 : ∀ b, ablk A3 = some b → ablk Ag = some b ∨ w2.heap.size ≤ b := fun b hb => by
                        rcases A3 with _ | a3
                        · cases hb
                        · rcases hat3 with e | e
                          · left
                            rcases Ag with _ | a2
                            · simp [Value.ownBlock] at e
                            · simp [Value.ownBlock] at e
                              simp [ablk] at hb ⊢
                              omega
                          · right
                            simp [Value.ownBlock] at e
                            simp [ablk] at hb
                            omega
                      have hp3 := ((hp2.addX (Y := fun b => w2.heap.size ≤ b) (fun b hb => hb)).fr f3 (fun e => hog2.ne_blk hp2.blk (by decide) e) (fun g1 e1 e2 => hog2.ne_row hp2.row (by decide) g1 e2 e1) (fun b _ _ _ hx e => hx (.inl e))).lessX (X' := fun b => ablk A3 = some b) hA3
                      have hlow3 : Below w.heap.size w w3 := hlow2.trans (f3.below hs2 (fun k hk e => by have := (hog2.lt k e).1; omega))
                      have hap3 : ∀ b, ablk A3 = some b → ablk Aw ≠ some b := fun b hb e => by
                        rcases hA3 b hb with e2 | e2
                        · exact hap b e2 e
                        · have := (hor.lt b e).2; omega
                      have hown3' := hown2.fr f3 (fun g1 e1 e2 => by
                        have e1' : ablk Aw = some g1 := by rcases Aw with _ | a; cases e1; exact e1
                        exact hap g1 e2 e1')
                      go_roundw
                      case rel =>
                        refine ⟨j + 1, L3, A3, c3, A2, c2, ls2, hlt, by go_num, rfl, hown3, hown3', hap3, hp3, ?_, hlow3⟩
                        show _ = _
                        rw [hL3.out, hl5.out, hS2.out, flat_dropS, List.append_assoc, List.take_append_drop]
                        exact hGL.out
                      case measure => simp [intOf]; omega
                    · have e : j = kl.length := by omega
                      subst e
                      clear hlt
                      have hor : Row wr w.heap.size 5 1 Aw L.length cw (L.map bv) := Row.of_own hown
                      have hog : Row wr w.heap.size 5 1 Ag G.length cg (G.map bv) := Row.of_own hgo
                      go_wp2_with fail
                      refine (pipeTake_any w.heap.size w.heap.size _ Ap cp lp false wr hp 20000 (by omega) (by omega) hsr).mono ?_
                      rintro e w2 ⟨A5, c5, l5, rfl, hl5, ho5, h2⟩
                      obtain ⟨A2, c2, ls2, hp2, hS2, _⟩ := h2.at_
                      have hown2 := hown.fr h2.fr (fun g1 e1 e2 => by
                        have e1' : ablk Aw = some g1 := by rcases Aw with _ | a; cases e1; exact e1
                        rcases e2 with rfl | e2
                        · exact hor.ne_blk hp.blk (by decide) e1'
                        · exact hor.ne_row hp.row (by decide) g1 e1' e2)
                      have hgo2 := hgo.fr h2.fr (fun g1 e1 e2 => by
                        have e1' : ablk Ag = some g1 := by rcases Ag with _ | a; cases e1; exact e1
                        rcases e2 with rfl | e2
                        · exact hog.ne_blk hp.blk (by decide) e1'
                        · exact hog.ne_row hp.row (by decide) g1 e1' e2)
                      have hlow2 : Below w.heap.size w w2 := hlow.trans (h2.fr.below hsr (fun k hk e => by
                        rcases e with rfl | e
                        · omega
                        · have := (hp.row.lt k e).1; omega))
                      have hs2 := hlow2.size
                      have htk : (flatP (lp.map PV.s)).take (20000 : Int).toNat = flatP (lp.map PV.s) := List.take_of_length_le (by show _ ≤ 20000; omega)
                      have hl5' : l5 = flatP (lp.map PV.s) := hl5.out.trans htk
                      have hem : flatP (ls2.map PV.s) = [] := by rw [hS2.out, flat_dropS]; exact List.drop_of_length_le (by show _ ≤ 20000; omega)
                      have hl5n : l5.length ≤ 10000 := by rw [hl5']; omega
                      have HEM := Lib.hid hem
                      have HL5 := Lib.hid hl5'
                      have hn2 : ls2.length ≤ 4398046511104 := by
                        rcases ls2 with _ | ⟨p, ls2⟩
                        · simp
                        · have := hp2.full p List.mem_cons_self
                          have h9 := congrArg List.length hem
                          unfold flatP at h9
                          rw [List.map_cons, List.flatMap_cons, List.length_append] at h9
                          have h8 : (PV.s p).1.length = p.x.l.length := rfl
                          rw [h8, List.length_nil] at h9
                          omega
                      clear htk hem hl5'
                      go_wp2_with (at_builtin; refine wpList_append_by rfl (.tmp 123) (.tmp 125) rfl (v := .slice Ag G.length cg) rfl hgo2 rfl ho5.rd (by omega) hs2 ?_; intro L3 A3 c3 w3 hL3 hown3 hg3 hat3)
                      have hog2 : Row w2 w.heap.size 5 1 Ag G.length cg (G.map bv) := Row.of_own hgo2
                      have f3 : Fr (fun x => ablk Ag = some x) w2 w3 := Fr.of_grown hg3 (fun k _ e => by rcases Ag with _ | a2; cases e; exact e)
                      have hown3' := hown2.fr f3 (fun g1 e1 e2 => by
                        have e1' : ablk Aw = some g1 := by rcases Aw with _ | a; cases e1; exact e1
                        exact hap g1 e2 e1')
                      have hlow3 : Below w.heap.size w w3 := hlow2.trans (f3.below hs2 (fun k hk e => by have := (hog2.lt k e).1; omega))
                      have hs3 := hlow3.size
                      have hp3 := (hp2.fr f3 (fun e => hog2.ne_blk hp2.blk (by decide) e) (fun g1 e1 e2 => hog2.ne_row hp2.row (by decide) g1 e2 e1) (fun b _ _ _ hx e => hx e))
                      refine (refSame_any _ _ _ _ L3 L _ _ _ hown3.rd hown3'.rd).mono ?_
                      rw [show (L3 == L) = true by rw [hL3.out, HL5.out, hGL.out]; simp]
                      rintro e w4 ⟨rfl, rfl⟩
                      go_wp2_with fail
                      refine (pipeLen_any w.heap.size w.heap.size _ A2 c2 ls2 false w3 hp3 hn2 (by rw [HEM.out]; simp)).mono ?_
                      rw [HEM.out]
                      rintro e w5 ⟨rfl, hb5⟩
                      go_wp2_with fail
                      refine (lives16_any _).mono ?_
                      rintro e w6 ⟨rfl, hb6⟩
                      go_wp2_with fail
                      go_ret
                      exact ⟨rfl, (hlow3.trans (hb5.mono hs3)).trans (hb6.mono (Nat.le_trans hs3 hb5.size))⟩
end Go.Proofs.Ytpbgcbpofhbgbaa
