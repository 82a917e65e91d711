/- GrainWrites, the walk: the pen and the wanted bytes grow alike. -/
import Derived.Test.YtofllgmieciakaaLaw01b
namespace Go.Proofs.Ytofllgmieciakaa
open Go.RowKit

/-- A pen with Lp and a row of one's own with Lw, apart from each other; below B all is as in w0. -/
structure GW (B pb : Nat) (w0 w : World) (vp vw : Value) (Lp Lw : List UInt8) : Prop where
  pen : Pen w B pb vp Lp
  own : OwB w B vw Lw
  dis : ∀ g, vw.ownBlock = some g → ¬ (g = pb ∨ vp.ownBlock = some g)
  low : Below B w0 w
  pb : B ≤ pb
  bs : B ≤ w.heap.size

theorem GW.mem {B pb : Nat} {w0 a b : World} {vp vw : Value} {Lp Lw : List UInt8} (h : GW B pb w0 a vp vw Lp Lw) (k : Below a.heap.size a b) : GW B pb w0 b vp vw Lp Lw :=
  ⟨h.pen.below k, h.own.below k, h.dis, h.low.trans (k.mono h.bs), h.pb, Nat.le_trans h.bs k.size⟩
theorem GW.step {B pb : Nat} {w0 a c : World} {vp vp' vw : Value} {Lp Lp' Lw : List UInt8} (h : GW B pb w0 a vp vw Lp Lw) (k : PenTo a B pb vp Lp' c vp') : GW B pb w0 c vp' vw Lp' Lw := by
  have ho := h.own.fr k.fr h.dis
  refine ⟨k.pen, ho, ?_, h.low.trans (h.pen.low k h.pb (Nat.le_refl _) h.bs), h.pb, Nat.le_trans h.bs k.fr.size⟩
  rintro g hg (rfl | e)
  · exact h.dis _ hg (.inl rfl)
  · rcases k.at_ with e2 | ⟨g', e2, hg'⟩
    · exact h.dis _ hg (.inr (by rw [← e2]; exact e))
    · rw [e2] at e
      injection e with e
      have := (h.own.lt _ hg).2
      omega
theorem GW.want {B pb : Nat} {w0 a c : World} {vp vw vw' : Value} {Lp Lw Lw' : List UInt8} (h : GW B pb w0 a vp vw Lp Lw) (hown : OwB c B vw' Lw') (hg : a.grownBy c vw.ownBlock) (hat : vw'.ownBlock = vw.ownBlock ∨ vw'.ownBlock = some a.heap.size) : GW B pb w0 c vp vw' Lp Lw' := by
  have f : Fr (fun k => vw.ownBlock = some k) a c := Fr.of_grown hg (fun _ _ e => e)
  have hb : Blk c pb 43 #[vp] := h.pen.blk.fr f (fun e => h.dis _ e (.inl rfl))
  refine ⟨⟨hb, h.pen.own.fr f (fun g e e2 => h.dis _ e2 (.inr e))⟩, hown, ?_, h.low.grown hg h.bs (fun k e => (h.own.lt _ e).1), h.pb, Nat.le_trans h.bs f.size⟩
  rintro g hg' (rfl | e)
  · exact hb.own_ne hown (by decide) hg'
  · rcases hat with e2 | e2
    · exact h.dis g (by rw [← e2]; exact hg') (.inr e)
    · rw [e2] at hg'
      injection hg' with hg'
      have := (h.pen.own.lt _ e).2
      omega
theorem box_keep {B pb : Nat} {a c : World} {vp vp' : Value} {Lp' : List UInt8} (k : PenTo a B pb vp Lp' c vp') {g : Nat} {t : TypeId} {cs : Array Value} (hb : Blk a g t cs) (h1 : g ≠ pb) (h2 : vp.ownBlock ≠ some g) : Blk c g t cs :=
  hb.fr k.fr (by rintro (e | e); exact h1 e; exact h2 e)

theorem mod2_nat (n : Nat) : ((n : Int) % 2 == 1).toNat = n % 2 := by
  rcases Nat.mod_two_eq_zero_or_one n with h | h
  · rw [h, show ((n : Int) % 2 == 1) = false by rw [beq_eq_false_iff_ne]; omega]; rfl
  · rw [h, show ((n : Int) % 2 == 1) = true by rw [beq_iff_eq]; omega]; rfl

def gwRel (A : Option Addr) (l : List OpV) (B pb : Nat) (w0 : World) (iv wv : Value) (wr : World) : Prop :=
  ∃ (i : Nat) (vp : Value) (Aw : Option Addr) (cw : Nat) (L : List UInt8), i ≤ l.length ∧ iv = .int .i64 (i : Int) ∧ wv = .slice Aw L.length cw ∧ GW B pb w0 wr vp (.slice Aw L.length cw) L L ∧ L.length ≤ 9 * i + lens (l.take i) ∧ A = A

set_option maxHeartbeats 1000000 in
theorem grainWrites_near (A : Option Addr) (c : Nat) (l : List OpV) (w : World) (h : Ops w (fun b => b < w.heap.size) A l) (hl : lightB l = true) :
    Calls Try.prog 5 #[.slice A l.length c] w fun e w' => e = .returned (.bool true) ∧ Below w.heap.size w w' := by
  have hlen := h.len
  have hl2 : l.length ≤ 200 ∧ lens l ≤ 3000 := by simpa [lightB] using hl
  go_enter Try.func5, Try.ntmps5
  go_wp2_with fail
  refine (light01_any A c l _ w h).mono ?_
  rintro e w1 ⟨rfl, hb1⟩
  rw [hl]
  have hs1 := hb1.size
  go_wp2_with fail
  go_loopw [14, 5] (fun iv wv wr => gwRel A l w.heap.size w1.heap.size w iv wv wr) (fun iv _ _ => l.length - (intOf iv).toNat)
  case atStart => exact ⟨0, _, none, 0, [], Nat.zero_le _, rfl, rfl, ⟨Pen.new w1, OwB.nil _ _, by simp [Value.ownBlock], hb1.alloc hs1 _, hs1, by simp; omega⟩, by simp, rfl⟩
  case round =>
    obtain ⟨i, vp, Aw, cw, L, hi, rfl, rfl, hg, hL, _⟩ := hrel
    by_cases hlt : i < l.length
    · obtain ⟨b, off, rfl, hz, hbb, hc0, hc1, hc2, hc3⟩ := (h.below hg.low).at_ hlt
      have hok := ((h.below hg.low).ok _ (List.getElem_mem hlt))
      have hT := lens_take l i hlt
      have hM := lens_mono l (i + 1)
      have hLb : L.length ≤ 4800 := by have := lens_mono l i; omega
      have hpw := hg.pen.blk.lt
      have hw1 := hg.bs
      generalize hN : l[i] = o at *
      obtain ⟨kind, n, most, xA, xc, xl⟩ := o
      obtain ⟨_, _, hn, _, _, hx, hxl⟩ := hok
      dsimp only at *
      clear hN
      have HT := Lib.hid hT
      have hxl2 : xl.length ≤ 3000 := by omega
      clear hT
      have hg1 := hg.mem ((Below.refl _ _).alloc (Nat.le_refl _) (.cells #[.int .i64 kind, .int .u64 (n : Int), .int .i64 most, .slice xA xl.length xc] 46))
      have hx1 := Blk.new wr 46 #[.int .i64 kind, .int .u64 (n : Int), .int .i64 most, .slice xA xl.length xc]
      have hvp : vp.ownBlock ≠ some wr.heap.size := fun e => by have := (hg.pen.own.lt _ e).2; omega
      have hpne : wr.heap.size ≠ w1.heap.size := by omega
      by_cases k1 : kind = 1
      · subst k1
        go_wp2_with fail
        refine (Num_any w.heap.size w1.heap.size vp L _ _ [n] (fun b => (wr.alloc (.cells #[.int .i64 1, .int .u64 (n : Int), .int .i64 most, .slice xA xl.length xc] 46)).heap.size ≤ b) _ ?_ ?_ ?_ ?_ ?_ ?_).mono ?_
        · exact hg1.pen.alloc _
        · exact Rd.lit rfl rfl (by simp)
        · rintro b _ hb (rfl | e)
          · simp at hb; omega
          · simp at hb; have := (hg.pen.own.lt _ e).2; omega
        · simpa using hn
        · simp; omega
        · simp; omega
        rintro e w2 ⟨rfl, vp2, h2⟩
        have hg2 := (hg1.mem ((Below.refl _ _).alloc (Nat.le_refl _) _)).step h2
        have hx2 := box_keep h2 (hx1.alloc _) hpne hvp
        have c1 : w2.cell? ⟨wr.heap.size, 1, none⟩ = some (.int .u64 (n : Int)) := hx2.cell 1
        have hpl2 := hx2.lt
        go_wp2_with fail
        refine (Num_nil _ _ _ _).mono ?_
        rintro e w3 ⟨rfl, rfl⟩
        go_wp2_with fail
        refine (refNum_any n _ hn).mono ?_
        rintro e w4 ⟨v4, rfl, h4, hb4⟩
        obtain ⟨A4, c4, rfl, _, _, _⟩ := h4.form
        have hg4 := (hg2.mem ((Below.refl _ _).alloc (Nat.le_refl _) _)).mem hb4
        have hnl := numB_len n
        go_wp2_with (at_builtin; refine wpList_append_by rfl (.tmp 31) (.tmp 34) rfl (v := .slice Aw L.length cw) rfl hg4.own rfl h4.rd (by omega) hg4.bs ?_; intro L5 A5 c5 w5 hL5 hown hgr hat)
        go_roundw
        case rel =>
          have hg5 := hg4.want hown hgr hat
          have e5 : L ++ [n].flatMap numB = L5 := by rw [hL5.out]; simp
          rw [e5] at hg5
          exact ⟨i + 1, vp2, A5, c5, L5, hlt, by go_num, rfl, hg5, by rw [hL5.out, List.length_append, HT.out]; omega, rfl⟩
        case measure => simp [intOf]; omega
      · have k1b : (kind == 1) = false := by simpa using k1
        by_cases k2 : kind = 2
        · subst k2
          clear k1b
          go_wp2_with fail
          refine (Truth_any w.heap.size w1.heap.size vp L _ _ [((n : Int) % 2 == 1)] (fun b => (wr.alloc (.cells #[.int .i64 2, .int .u64 (n : Int), .int .i64 most, .slice xA xl.length xc] 46)).heap.size ≤ b) _ ?_ ?_ ?_ ?_ ?_).mono ?_
          · exact hg1.pen.alloc _
          · exact Rd.lit rfl rfl (by simp)
          · rintro b _ hb (rfl | e)
            · simp at hb; omega
            · simp at hb; have := (hg.pen.own.lt _ e).2; omega
          · simp; omega
          · simp; omega
          rintro e w2 ⟨rfl, vp2, h2⟩
          have hg2 := (hg1.mem ((Below.refl _ _).alloc (Nat.le_refl _) _)).step h2
          have hx2 := box_keep h2 (hx1.alloc _) hpne hvp
          have c1 : w2.cell? ⟨wr.heap.size, 1, none⟩ = some (.int .u64 (n : Int)) := hx2.cell 1
          have hpl2 := hx2.lt
          go_wp2_with fail
          refine (Truth_nil _ _ [true] _ _ (Rd.lit rfl rfl rfl) (by simp)).mono ?_
          rintro e w3 ⟨rfl, hb3⟩
          have hx3 := (hx2.alloc _).below hb3
          have c3 : w3.cell? ⟨wr.heap.size, 1, none⟩ = some (.int .u64 (n : Int)) := hx3.cell 1
          have hg3 := (hg2.mem ((Below.refl _ _).alloc (Nat.le_refl _) _)).mem hb3
          go_wp2_with fail
          rw [show ((n : Int) % 2) = ((n % 2 : Nat) : Int) from by omega]
          refine (refNum_any (n % 2) _ (by omega)).mono ?_
          rintro e w4 ⟨v4, rfl, h4, hb4⟩
          obtain ⟨A4, c4, rfl, _, _, _⟩ := h4.form
          have hg4 := hg3.mem hb4
          have hnl := numB_len (n % 2)
          go_wp2_with (at_builtin; refine wpList_append_by rfl (.tmp 47) (.tmp 51) rfl (v := .slice Aw L.length cw) rfl hg4.own rfl h4.rd (by omega) hg4.bs ?_; intro L5 A5 c5 w5 hL5 hown hgr hat)
          go_roundw
          case rel =>
            have hg5 := hg4.want hown hgr hat
            have e5 : L ++ [((n : Int) % 2 == 1)].flatMap (fun b => numB b.toNat) = L5 := by rw [hL5.out]; simp [mod2_nat]
            rw [e5] at hg5
            exact ⟨i + 1, vp2, A5, c5, L5, hlt, by go_num, rfl, hg5, by rw [hL5.out, List.length_append, HT.out]; omega, rfl⟩
          case measure => simp [intOf]; omega
        · have k2b : (kind == 2) = false := by simpa using k2
          by_cases k3 : kind = 3
          · subst k3
            clear k1b k2b
            go_wp2_with fail
            refine (Text_any w.heap.size w1.heap.size vp L _ _ [⟨xA, xc, xl⟩] (fun b => b < w.heap.size ∨ (wr.alloc (.cells #[.int .i64 3, .int .u64 (n : Int), .int .i64 most, .slice xA xl.length xc] 46)).heap.size ≤ b) _ ?_ ?_ ?_ ?_ ?_ ?_).mono ?_
            · exact hg1.pen.alloc _
            · exact (Rd.lit rfl rfl (by simp)).mono (fun b _ hb => .inr hb)
            · intro y hy
              obtain rfl := List.mem_singleton.1 hy
              exact ((hx.below ((Below.refl _ _).alloc (Nat.le_refl _) _)).below ((Below.refl _ _).alloc (Nat.le_refl _) _)).mono (fun b _ hb => .inl hb)
            · rintro b _ hb (rfl | e)
              · rcases hb with hb | hb
                · omega
                · simp at hb; omega
              · have := (hg.pen.own.lt _ e)
                rcases hb with hb | hb
                · omega
                · simp at hb; omega
            · simp; omega
            · simp [wide]; omega
            rintro e w2 ⟨rfl, vp2, h2⟩
            have hg2 := (hg1.mem ((Below.refl _ _).alloc (Nat.le_refl _) _)).step h2
            have hx2 := box_keep h2 (hx1.alloc _) hpne hvp
            have c1 : w2.cell? ⟨wr.heap.size, 3, none⟩ = some (.slice xA xl.length xc) := hx2.cell 3
            have hpl2 := hx2.lt
            go_wp2_with fail
            refine (Text_nil _ _ _ _).mono ?_
            rintro e w3 ⟨rfl, rfl⟩
            have hg3 := hg2.mem ((Below.refl _ _).alloc (Nat.le_refl _) (.cells #[.slice xA xl.length xc] 41))
            have hy : By w2 (fun b => b < w.heap.size) xA xl := (((hx.below ((Below.refl _ _).alloc (Nat.le_refl _) _)).below ((Below.refl _ _).alloc (Nat.le_refl _) _)).fr h2.fr (fun b _ hb e => by
              rcases e with e | e
              · omega
              · have := (hg.pen.own.lt _ e).1; omega)).by_
            go_wp2_with fail
            refine (refText_any xA xc xl _ _ (hy.alloc _) (by omega)).mono ?_
            rintro e w4 ⟨v4, rfl, h4, hb4⟩
            obtain ⟨A4, c4, rfl, _, _, _⟩ := h4.form
            have hg4 := hg3.mem hb4
            have hnl : (textB xl).length ≤ 9 + xl.length := by have := numB_len xl.length; simp only [textB, List.length_append]; omega
            go_wp2_with (at_builtin; refine wpList_append_by rfl (.tmp 64) (.tmp 67) rfl (v := .slice Aw L.length cw) rfl hg4.own rfl h4.rd (by omega) hg4.bs ?_; intro L5 A5 c5 w5 hL5 hown hgr hat)
            go_roundw
            case rel =>
              have hg5 := hg4.want hown hgr hat
              have e5 : L ++ [(⟨xA, xc, xl⟩ : BV)].flatMap (fun x => textB x.l) = L5 := by rw [hL5.out]; simp
              rw [e5] at hg5
              exact ⟨i + 1, vp2, A5, c5, L5, hlt, by go_num, rfl, hg5, by rw [hL5.out, List.length_append, HT.out]; omega, rfl⟩
            case measure => simp [intOf]; omega
          · have k3b : (kind == 3) = false := by simpa using k3
            go_wp2_with fail
            go_roundw
            case rel => exact ⟨i + 1, vp, Aw, cw, L, hlt, by go_num, rfl, hg1, by rw [HT.out]; omega, rfl⟩
            case measure => simp [intOf]; omega
    · have hLb : L.length ≤ 4800 := by have := lens_mono l i; omega
      go_wp2_with fail
      refine (Bytes_any _ _ _ _ _ hg.pen (by omega)).mono ?_
      rintro e w2 ⟨A2, c2, l2, rfl, hl2', ho2, hb2⟩
      have hg2 := hg.mem hb2
      go_wp2_with fail
      refine (refSame_any _ _ _ _ l2 L _ _ _ ho2.rd hg2.own.rd).mono ?_
      rintro e w3 ⟨rfl, rfl⟩
      have e2 : (l2 == L) = true := by rw [hl2'.out]; simp
      go_wp2_with fail
      refine (Bytes_nil _).mono ?_
      rintro e w3 ⟨rfl, rfl⟩
      go_wp2_with fail
      refine (lives01_any _).mono ?_
      rintro e w3 ⟨rfl, hb3⟩
      go_wp2_with fail
      go_ret
      exact ⟨rfl, (hg2.mem hb3).low⟩

set_option maxHeartbeats 400000 in
theorem grainWrites_far (A : Option Addr) (c : Nat) (l : List OpV) (w : World) (h : Ops w (fun b => b < w.heap.size) A l) (hl : lightB l = false) :
    Calls Try.prog 5 #[.slice A l.length c] w fun e w' => e = .returned (.bool true) ∧ Below w.heap.size w w' := by
  go_enter Try.func5, Try.ntmps5
  go_wp2_with fail
  refine (light01_any A c l _ w h).mono ?_
  rintro e w1 ⟨rfl, hb1⟩
  rw [hl]
  go_wp2_with fail
  refine (lives01_any _).mono ?_
  rintro e w2 ⟨rfl, hb2⟩
  go_wp2_with fail
  go_ret
  exact ⟨rfl, bthen hb1 hb2⟩
end Go.Proofs.Ytofllgmieciakaa
