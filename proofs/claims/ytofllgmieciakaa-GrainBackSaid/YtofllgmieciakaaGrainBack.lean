/- GrainBack is true for every input: what was written is read as it was, to its end. No condition beyond the row's own. -/
import Derived.Test.YtofllgmieciakaaBackMath
import Derived.Test.YtofllgmieciakaaGrainWrites
import Derived.Test.YtofllgmieciakaaOpenOps
import Derived.Deep.RegionHeld3
namespace Go.Proofs.Ytofllgmieciakaa
open Go.RowKit Go.WideShapes Go.ChangeShapes Go.ChangeAt

/-- an even number's truth, as the walk has it -/
abbrev evn (n : Nat) : Bool := ((n : Int) % 2 == 0)
/-- what is written of one call -/
def encO (o : OpV) : List UInt8 := numB o.n ++ (numB (evn o.n).toNat ++ textB o.x.l)
theorem encO_len (o : OpV) : (encO o).length ≤ 27 + o.x.l.length := by
  have h1 := numB_len o.n
  have h2 := numB_len (evn o.n).toNat
  have h3 := numB_len o.x.l.length
  simp only [encO, textB, List.length_append]
  omega
theorem encO_take (l : List OpV) (i : Nat) : ((l.take i).flatMap encO).length ≤ 27 * i + lens (l.take i) := by
  have h : ∀ m : List OpV, (m.flatMap encO).length ≤ 27 * m.length + lens m := by
    intro m
    induction m with
    | nil => simp
    | cons o m ih =>
      have := encO_len o
      simp only [List.flatMap_cons, List.length_append, List.length_cons, lens, List.map_cons, List.sum_cons] at ih ⊢
      omega
  have h1 := h (l.take i)
  have h2 : (l.take i).length ≤ i := List.length_take_le _ _
  omega

theorem num_back (eb : Nat) (Z : Nat → Prop) (A : Option Addr) (c n : Nat) (t : List UInt8) (most : Int) (w : World) (h : EyeAt w 75 eb Z A c (numB n ++ t) 0) (hz : ¬ Z eb) (hn : n < 18446744073709551616) (hm : (n : Int) ≤ most) :
    Calls Try.prog 30 #[.pointer (some ⟨eb, 0, none⟩), .int .u64 most] w fun e w' => e = .returned (.int .u64 (n : Int)) ∧ EyeTo w 75 eb Z t 0 w' := by
  have := eyeNum_any eb Z A c _ 0 most.toNat w h hz
  rw [read_numB t hn (by omega), Int.toNat_of_nonneg (by omega)] at this
  exact this
theorem truth_back (eb : Nat) (Z : Nat → Prop) (A : Option Addr) (c : Nat) (b : Bool) (t : List UInt8) (w : World) (h : EyeAt w 75 eb Z A c (numB b.toNat ++ t) 0) (hz : ¬ Z eb) :
    Calls Try.prog 34 #[.pointer (some ⟨eb, 0, none⟩)] w fun e w' => e = .returned (.bool b) ∧ EyeTo w 75 eb Z t 0 w' := by
  have := truth_any eb Z A c _ 0 w h hz
  rw [read_numB t (by cases b <;> simp) (by cases b <;> simp)] at this
  refine this.mono ?_
  rintro e w' ⟨rfl, h⟩
  exact ⟨by cases b <;> rfl, h⟩
theorem text_back (eb : Nat) (Z : Nat → Prop) (A : Option Addr) (c : Nat) (l t : List UInt8) (most : Int) (w : World) (h : EyeAt w 75 eb Z A c (textB l ++ t) 0) (hz : ¬ Z eb) (hm : most < 9223372036854775808) (hl : (l.length : Int) ≤ most) (hlen : (textB l ++ t).length ≤ 140737488355328) :
    Calls Try.prog 35 #[.pointer (some ⟨eb, 0, none⟩), .int .i64 most] w fun e w' => ∃ (A' : Option Addr) (c' : Nat) (l' : List UInt8), e = .returned (.slice A' l'.length c') ∧ Hid (l' = l) ∧ OwB w' w.heap.size (.slice A' l'.length c') l' ∧ EyeTo w 75 eb Z t 0 w' := by
  have := text_any eb Z A c _ 0 most w h hz hm hlen
  rw [text_textB t (by omega) hl] at this
  exact this

theorem EyeTo.low {w w' : World} {T eb B : Nat} {Z : Nat → Prop} {l : List UInt8} {f : Int} (h : EyeTo w T eb Z l f w') (hB : B ≤ eb) (hs : B ≤ w.heap.size) : Below B w w' := h.fr.below hs (fun k hk => by omega)
theorem keepE {w w' w3 : World} {T eb bx : Nat} {Z : Nat → Prop} {l : List UInt8} {f : Int} {u v : Value}
    (hS : w'.cell? ⟨bx, 1, none⟩ = some u ∧ w'.cell? ⟨bx, 3, none⟩ = some v ∧ Below w.heap.size w w') (h : EyeTo w' T eb Z l f w3) (hB : w.heap.size ≤ eb) (hne : bx ≠ eb) :
    w3.cell? ⟨bx, 1, none⟩ = some u ∧ w3.cell? ⟨bx, 3, none⟩ = some v ∧ Below w.heap.size w w3 :=
  ⟨(h.fr.cell (p := ⟨bx, 1, none⟩) (World.block_lt_of_cell? w' ⟨bx, 1, none⟩ hS.1) hne).trans hS.1, (h.fr.cell (p := ⟨bx, 3, none⟩) (World.block_lt_of_cell? w' ⟨bx, 3, none⟩ hS.2.1) hne).trans hS.2.1, hS.2.2.trans (h.low hB hS.2.2.size)⟩
theorem hAny {w w' : World} {bx : Nat} {u v : Value} (hS : w'.cell? ⟨bx, 1, none⟩ = some u ∧ w'.cell? ⟨bx, 3, none⟩ = some v ∧ Below w.heap.size w w') : Below w.heap.size w w' := hS.2.2
/-- the first loop's relation -/
def gbRel (l : List OpV) (B pb : Nat) (w0 : World) (iv : Value) (wr : World) : Prop :=
  ∃ (i : Nat) (vp : Value) (L : List UInt8), i ≤ l.length ∧ iv = .int .i64 (i : Int) ∧ Pen wr B pb vp L ∧ Hid (L = (l.take i).flatMap encO) ∧ Below B w0 wr ∧ B ≤ pb ∧ B ≤ wr.heap.size

set_option maxHeartbeats 1000000 in
theorem grainBack_near (A : Option Addr) (c : Nat) (l : List OpV) (w : World) (h : Ops w (fun b => b < w.heap.size) A l) (hl : lightB l = true) :
    Calls Try.prog 8 #[.slice A l.length c] w fun e w' => e = .returned (.bool true) ∧ Below w.heap.size w w' := by
  have hlen := h.len
  have hl2 : l.length ≤ 200 ∧ lens l ≤ 3000 := by simpa [lightB] using hl
  go_enter Try.func8, Try.ntmps8
  go_wp2_with fail
  refine (light01_any A c l _ w h).mono ?_
  rintro e w1 ⟨rfl, hb1⟩
  rw [hl]
  have hs1 := hb1.size
  go_wp2_with fail
  go_loopw [15] (fun iv wr => gbRel l w.heap.size w1.heap.size w iv wr) (fun iv _ => l.length - (intOf iv).toNat)
  case atStart => exact ⟨0, _, [], Nat.zero_le _, rfl, Pen.new w1, by show _ = _; simp, hb1.alloc hs1 _, hs1, by simp; omega⟩
  case round =>
    obtain ⟨i, vp, L, hi, rfl, hp, hL, hlow, hpb, hbs⟩ := hrel
    have hLl : L.length ≤ 27 * 200 + 3000 := by
      rw [hL.out]
      have h1 := encO_take l i
      have h2 := lens_mono l i
      omega
    by_cases hlt : i < l.length
    · obtain ⟨b, off, rfl, hz, hbb, hc0, hc1, hc2, hc3⟩ := (h.below hlow).at_ hlt
      have hok := (h.ok _ (List.getElem_mem hlt))
      have hM := lens_mono l (i + 1)
      have hT := lens_take l i hlt
      have hxl2 : l[i].x.l.length ≤ 3000 := by omega
      have hLn := flat_take (f := encO) (l := []) (L := L) hlt (by rw [hL.out]; rfl)
      have HLn := Lib.hid hLn
      have hpw := hp.blk.lt
      clear hLn hT hM
      generalize l[i] = o at *
      obtain ⟨kind, n, most, xA, xc, xl⟩ := o
      obtain ⟨_, _, hn, _, _, hx, hxl⟩ := hok
      dsimp only at *
      have hx1 := Blk.new wr 46 #[.int .i64 kind, .int .u64 (n : Int), .int .i64 most, .slice xA xl.length xc]
      have hvp : vp.ownBlock ≠ some wr.heap.size := fun e => by have := (hp.own.lt _ e).2; omega
      have hpne : wr.heap.size ≠ w1.heap.size := by omega
      go_wp2_with fail
      refine (Num_any w.heap.size w1.heap.size vp L _ _ [n] (fun b => (wr.alloc (.cells #[.int .i64 kind, .int .u64 (n : Int), .int .i64 most, .slice xA xl.length xc] 46)).heap.size ≤ b) _ ?_ ?_ ?_ ?_ ?_ ?_).mono ?_
      · exact (hp.alloc _).alloc _
      · exact Rd.lit rfl rfl (by simp)
      · rintro b _ hb (rfl | e)
        · simp at hb; omega
        · simp at hb; have := (hp.own.lt _ e).2; omega
      · simpa using hn
      · simp; omega
      · simp; omega
      rintro e w2 ⟨rfl, vp2, h2⟩
      have hx2 := box_keep h2 (hx1.alloc _) hpne hvp
      have c1 : w2.cell? ⟨wr.heap.size, 1, none⟩ = some (.int .u64 (n : Int)) := hx2.cell 1
      have hpl2 := hx2.lt
      have hlow2 : Below w.heap.size w w2 := (((hlow.alloc hbs _).alloc (by simp; omega) _)).trans (((hp.alloc _).alloc _).low h2 hpb (Nat.le_refl _) (by simp; omega))
      have hl2' : (L ++ [n].flatMap numB).length ≤ L.length + 9 := by have := numB_len n; simp; omega
      generalize hL2 : L ++ [n].flatMap numB = L2 at *
      have HL2 := Lib.hid hL2
      clear hL2
      have hvp2 : vp2.ownBlock ≠ some wr.heap.size := by
        rcases h2.at_ with e | ⟨g, e, hg⟩
        · rw [e]; exact hvp
        · rw [e]; simp at hg ⊢; omega
      have hp2 := h2.pen
      have hs2 := h2.fr.size
      have hs2' : wr.heap.size + 2 ≤ w2.heap.size := by simpa using hs2
      clear hs2
      go_wp2_with fail
      refine (Truth_any w.heap.size w1.heap.size vp2 L2 _ _ [evn n] (fun b => w2.heap.size ≤ b) _ ?_ ?_ ?_ ?_ ?_).mono ?_
      · exact hp2.alloc _
      · exact Rd.lit rfl rfl (by simp)
      · rintro b _ hb (rfl | e)
        · omega
        · have := (hp2.own.lt _ e).2; omega
      · simp; omega
      · simp; omega
      rintro e w3 ⟨rfl, vp3, h3⟩
      have hx3 := box_keep h3 (hx2.alloc _) hpne hvp2
      have c3 : w3.cell? ⟨wr.heap.size, 3, none⟩ = some (.slice xA xl.length xc) := hx3.cell 3
      have hpl3 := hx3.lt
      have hlow3 : Below w.heap.size w w3 := (hlow2.alloc (by omega) _).trans ((hp2.alloc _).low h3 hpb (Nat.le_refl _) (by simp; omega))
      have hl3' : (L2 ++ [evn n].flatMap fun b => numB b.toNat).length ≤ L2.length + 9 := by have := numB_len (evn n).toNat; simp only [List.length_append, List.flatMap_cons, List.flatMap_nil, List.append_nil]; omega
      generalize hL3 : (L2 ++ [evn n].flatMap fun b => numB b.toNat) = L3 at *
      have HL3 := Lib.hid hL3
      clear hL3
      have hp3 := h3.pen
      have hs3 := h3.fr.size
      have hs3' : wr.heap.size + 3 ≤ w3.heap.size := by simp at hs3; omega
      clear hs3
      go_wp2_with fail
      refine (Text_any w.heap.size w1.heap.size vp3 L3 _ _ [⟨xA, xc, xl⟩] (fun b => b < w.heap.size ∨ w3.heap.size ≤ b) _ ?_ ?_ ?_ ?_ ?_ ?_).mono ?_
      · exact hp3.alloc _
      · exact (Rd.lit rfl rfl (by simp)).mono (fun b _ hb => .inr hb)
      · intro y hy
        obtain rfl := List.mem_singleton.1 hy
        refine BV.ok.mono (Z := fun b => b < w.heap.size) (BV.ok.below (w := w3) ?_ ((Below.refl _ _).alloc (Nat.le_refl _) _)) (fun b _ hb => .inl hb)
        exact BV.ok.below hx hlow3
      · rintro b _ hb (rfl | e)
        · rcases hb with hb | hb
          · omega
          · have := hp3.blk.lt; omega
        · have := hp3.own.lt _ e
          rcases hb with hb | hb
          · omega
          · omega
      · simp; omega
      · simp [wide]; omega
      rintro e w4 ⟨rfl, vp4, h4⟩
      have hlow4 : Below w.heap.size w w4 := (hlow3.alloc (by omega) _).trans ((hp3.alloc _).low h4 hpb (Nat.le_refl _) (by simp; omega))
      have hs4 := h4.fr.size
      go_wp2_with fail
      go_roundw
      case rel =>
        refine ⟨i + 1, vp4, _, hlt, by go_num, h4.pen, ?_, hlow4, hpb, by simp at hs4; omega⟩
        show _ = _
        rw [← HL3.out, ← HL2.out]
        have := HLn.out
        simp only [encO] at this
        simpa using this
      case measure => simp [intOf]; omega
    · have e : i = l.length := by omega
      subst e
      have hLA : Hid (L = l.flatMap encO) := by show _ = _; rw [hL.out, List.take_length]
      clear hL
      go_wp2_with fail
      refine (Bytes_any _ _ _ _ _ hp (by omega)).mono ?_
      rintro e w2 ⟨A2, c2, L2, rfl, hL2, ho2, hb2⟩
      have hlow2 := hlow.trans (hb2.mono hbs)
      have hL2l : L2.length ≤ 8400 := by rw [hL2.out]; omega
      have HL : Hid (L2 = (l.drop 0).flatMap encO) := by show _ = _; rw [hL2.out, hLA.out]; simp
      obtain ⟨A2', c2', e2, hlc2, hcm2, hA2⟩ := ho2.form
      obtain ⟨rfl, rfl⟩ : A2 = A2' ∧ c2 = c2' := by simpa using e2
      clear e2 hL2 hLA
      have hbs2 := hlow2.size
      go_wp2_with fail
      refine (open_any A2 c2 L2.length w2).mono ?_
      rintro e w3 ⟨rfl, rfl⟩
      have he := EyeAt.new w2 (T := 75) (Z := fun b => b < w2.heap.size) (ho2.rd.mono (fun b hb _ => hb)) hlc2 hcm2
      go_wp2_with fail
      go_loopw [40] (fun iv wr => ∃ (i : Nat) (A3 : Option Addr) (c3 : Nat) (L3 : List UInt8), i ≤ l.length ∧ iv = .int .i64 (i : Int) ∧ EyeAt wr 75 w2.heap.size (fun b => b < w2.heap.size) A3 c3 L3 0 ∧ L3.length ≤ 8400 ∧ Hid (L3 = (l.drop i).flatMap encO) ∧ Below w.heap.size w wr) (fun iv _ => l.length - (intOf iv).toNat)
      case atStart => exact ⟨0, A2, c2, L2, Nat.zero_le _, rfl, he, hL2l, HL, hlow2.alloc hbs2 _⟩
      case round =>
        obtain ⟨i, A3, c3, L3, hi, rfl, he3, hL3l, hL3, hlow3⟩ := hrel
        by_cases hlt : i < l.length
        · have hq := (h.below hlow3).at_ hlt
          have hok := (h.ok _ (List.getElem_mem hlt))
          have hT := lens_take l i hlt
          have hM := lens_mono l (i + 1)
          have hxl2 : l[i].x.l.length ≤ 3000 := by omega
          have hdr : L3 = encO l[i] ++ (l.drop (i + 1)).flatMap encO := by rw [hL3.out, List.drop_eq_getElem_cons hlt, List.flatMap_cons]
          have hne : w2.heap.size < wr.heap.size := he3.1.lt
          have hbs3 := hlow3.size
          clear hT hM hL3
          have HR : Hid ((l.drop (i + 1)).flatMap encO = (l.drop (i + 1)).flatMap encO) := rfl
          generalize hRR : (l.drop (i + 1)).flatMap encO = R at hdr HR
          have HRR := Lib.hid hRR
          clear hRR HR
          generalize l[i] = o at *
          obtain ⟨kind, n, most, xA, xc, xl⟩ := o
          obtain ⟨_, _, hn, _, _, hx, hxl⟩ := hok
          dsimp only at *
          obtain ⟨b, off, rfl, hz, hbb, hc0, hc1, hc2, hc3⟩ := hq
          simp only [encO] at hdr
          rw [hdr, List.append_assoc, List.append_assoc] at he3
          have hln : (textB xl ++ R).length ≤ 140737488355328 := by
            have : L3.length = (numB n ++ (numB (evn n).toNat ++ (textB xl ++ R))).length := by rw [hdr, List.append_assoc, List.append_assoc]
            simp only [List.length_append] at this ⊢
            omega
          have hRl : R.length ≤ 8400 := by
            have : L3.length = (numB n ++ (numB (evn n).toNat ++ (textB xl ++ R))).length := by rw [hdr, List.append_assoc, List.append_assoc]
            simp only [List.length_append] at this
            omega
          clear hdr
          have hzE : ¬ (fun b => b < w2.heap.size) w2.heap.size := by simp
          have he4 := he3.below ((Below.refl wr.heap.size wr).alloc (Nat.le_refl _) (.cells #[.int .i64 kind, .int .u64 (n : Int), .int .i64 most, .slice xA xl.length xc] 46))
          have hx1 := Blk.new wr 46 #[.int .i64 kind, .int .u64 (n : Int), .int .i64 most, .slice xA xl.length xc]
          have hlow4 := hlow3.alloc hbs3 (.cells #[.int .i64 kind, .int .u64 (n : Int), .int .i64 most, .slice xA xl.length xc] 46)
          have cb1 := hx1.cell 1
          have cb3 := hx1.cell 3
          go_wp2_with fail
          generalize wr.alloc (.cells #[.int .i64 kind, .int .u64 (n : Int), .int .i64 most, .slice xA xl.length xc] 46) = W at he4 hx1 hlow4 cb1 cb3 ⊢
          replace cb1 : W.cell? ⟨wr.heap.size, 1, none⟩ = some (.int .u64 (n : Int)) := cb1
          replace cb3 : W.cell? ⟨wr.heap.size, 3, none⟩ = some (.slice xA xl.length xc) := cb3
          have hnx : wr.heap.size ≠ w2.heap.size := by omega
          clear he3 hc0 hc1 hc2 hc3 he HL hb2 ho2 hx1
          have ht1 : (n : Int).tmod 2 = (n : Int) % 2 := Int.tmod_eq_emod_of_nonneg (by omega)
          have ht2 : IntKind.u64.wrap ((n : Int) % 2) = (n : Int) % 2 := by simp only [IntKind.wrap, IntKind.bits, IntKind.signed]; simp; omega
          cases hbv : ((n : Int) % 2 == 0)
          all_goals
            go_region_held3 (fun w' => w'.cell? ⟨wr.heap.size, 1, none⟩ = some (.int .u64 (n : Int)) ∧ w'.cell? ⟨wr.heap.size, 3, none⟩ = some (.slice xA xl.length xc) ∧ Below w.heap.size w w')
              (first | assumption | exact ⟨cb1, cb3, hlow4.drew⟩ | exact keepE (by assumption) hk hbs2 hnx)
              (first
                | (go_at_call 30; refine (num_back w2.heap.size _ A3 c3 n _ _ _ (he4.below (Below.refl _ _).drew) hzE hn (by omega)).mono ?_; rintro e w3 ⟨rfl, hk⟩; obtain ⟨A4, c4, he5⟩ := hk.at_)
                | (go_at_call 34; refine (truth_back w2.heap.size _ A4 c4 ((n : Int) % 2 == 0) _ _ he5 hzE).mono ?_; rw [hbv]; rintro e w4 ⟨rfl, hk⟩; obtain ⟨A5, c5, he6⟩ := hk.at_)
                | (go_at_call 35; refine (text_back w2.heap.size _ A5 c5 xl R 3000 _ he6 hzE (by omega) (by omega) hln).mono ?_; rintro e w5 ⟨A6, c6, l6, rfl, hl6, ho6, hk⟩; obtain ⟨A7, c7, he7⟩ := hk.at_)
                | (go_at_call 27; refine (refSame_any A6 xA c6 xc l6 xl _ _ _ ho6.rd ((BV.ok.below hx (hAny (by assumption))).by_)).mono ?_; rw [show (l6 == xl) = true by rw [hl6.out]; simp]; rintro e w6 ⟨rfl, rfl⟩))
            go_wp2_with fail
            clear ht1 ht2
            go_roundw
            case rel => exact ⟨i + 1, A7, c7, R, hlt, by go_num, he7, hRl, HRR.out.symm, hAny (by assumption)⟩
            case measure => simp [intOf]; omega
        · have e : i = l.length := by omega
          subst e
          obtain rfl : L3 = [] := by rw [hL3.out]; simp
          have hbs3 := hlow3.size
          go_wp2_with fail
          refine (close_any w2.heap.size _ A3 c3 [] 0 _ he3).mono ?_
          rintro e w4 ⟨rfl, rfl⟩
          go_wp2_with fail
          refine (lives01_any _).mono ?_
          rintro e w5 ⟨rfl, hb5⟩
          go_wp2_with fail
          go_ret
          exact ⟨rfl, hlow3.trans (hb5.mono hbs3)⟩

set_option maxHeartbeats 400000 in
theorem grainBack_far (A : Option Addr) (c : Nat) (l : List OpV) (w : World) (h : Ops w (fun b => b < w.heap.size) A l) (hl : lightB l = false) :
    Calls Try.prog 8 #[.slice A l.length c] w fun e w' => e = .returned (.bool true) ∧ Below w.heap.size w w' := by
  go_enter Try.func8, Try.ntmps8
  go_wp2_with fail
  refine (light01_any A c l _ w h).mono ?_
  rintro e w1 ⟨rfl, hb1⟩
  rw [hl]
  go_wp2_with fail
  refine (lives01_any _).mono ?_
  rintro e w2 ⟨rfl, hb2⟩
  go_wp2_with fail
  go_ret
  exact ⟨rfl, bthen hb1 hb2⟩

set_option maxRecDepth 100000 in
theorem grainBack_lifted (os : Os) (started : os.Started) (H : Type) (enc : TypeId × Value → H) :
    ReturnsInHanded {} Try.checked os 8 .any (Rows.grainBackSpec.pre6 enc Try.prog Try.f8 Rows.grainBackRow.domain false) (Rows.grainBackSpec.post enc Try.prog Try.f8 false true false false) := by
  refine law_lift started (by kernel_rfl) Try.func8 (by kernel_rfl) rfl ?_ ?_
    (ChangeSpec.witness6 (enc := enc) (C := Try.checked) false ⟨#[], #[.slice none 0 0], []⟩ 8 (by kernel_rfl) (by kernel_rfl) (by kernel_rfl) (by kernel_rfl)) ?_
  · rw [Try.params8]
    intro t ht
    exact law_reads (by kernel_rfl) t ht
  · rw [Try.params8]
    intro ds hds
    match ds, hds with
    | [d1], _ => rfl
  · intro W base args ds ps hval hA hlt hsz
    rw [Try.params8] at hA hval hsz
    obtain ⟨v0, d0, rfl, rfl, h0⟩ := trodAll_one hA
    obtain ⟨n, hn⟩ := h0
    obtain ⟨A0, n0, c0, rfl⟩ := okWide_slice Try.underlying39 (hval 0 39 v0 rfl rfl)
    obtain ⟨A, c, l, hv', hl⟩ := open_ops hn (within_of (j := 0) hsz rfl rfl)
    rw [hv']
    cases hg : lightB l
    · exact grainBack_far A c l W hl hg
    · exact grainBack_near A c l W hl hg


theorem grainBack_holds : Rows.GrainBackSaid :=
  OpenClaim.holds_of_wide 8 Try.f8 rfl rfl rfl rfl rfl rfl rfl ⟨rfl, rfl, rfl, rfl, rfl⟩ rfl rfl rfl rfl rfl (by kernel_rfl) Try.func8 (by kernel_rfl)
    (of_decide_eq_true (by kernel_rfl)) (by unfold Func.isWrapper; rw [if_neg (of_decide_eq_false (by kernel_rfl))]; exact ⟨rfl, rfl⟩)
    (fun os started H enc _ => grainBack_lifted os started H enc)
end Go.Proofs.Ytofllgmieciakaa
