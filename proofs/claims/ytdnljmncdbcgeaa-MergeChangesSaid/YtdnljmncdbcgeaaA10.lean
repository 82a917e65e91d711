/- Drawn regions in an order of ours: as Mix, but the operations are told in any order that the region may have. No program. -/
import Derived.Test.YtdnljmncdbcgeaaA09

namespace Go.Proofs.Ytdnljmncdbcgeaa
open Go.RowKit

section
variable {P : Program} {ops : Array Oper} {md : Region.Mode} {C : World → Prop}
def mixP (md : Region.Mode) (ops : Array Oper) (g m : Nat) : List (Nat × Bool) → Array Bool → Bool
  | [], listed => Region.seqB md ops g m listed
  | (k, true) :: ks, listed => decide (k < m) && (Region.ready md ops listed).contains k && Region.free md ops listed k && mixP md ops g m ks (listed.setIfInBounds k true)
  | (k, false) :: ks, listed => decide (k < m) && decide (Region.ready md ops listed = [k]) && mixP md ops g m ks (listed.setIfInBounds k true)
theorem mix_perm {m g : Nat} {Lq : Act → World → Prop} (hsel : ∀ (j : Nat) (o : Oper) cs b, ops[j]? = some o → o.op ≠ .select cs b) (hT : TailWaitsB md ops m) :
    ∀ (ks : List (Nat × Bool)) (l : List Oper) (listed : Array Bool) (a : Act) (w : World), l.map some = ks.map (fun x => ops[x.1]?) → HeadInv md ops m listed →
    mixP md ops g m ks listed = true → wpMix P ops C Lq (ks.map (·.2)) l a w →
    wpAnyT P md ops C m (fun listed' a' w' => Region.seqB md ops g m listed' = true ∧ Lq a' w') l.length listed a w
  | [], [], listed, a, w, _, _, hB, h => ⟨h.1, seqB_ready hB, hB, h.2⟩
  | (k, true) :: ks, o :: l, listed, a, w, hl, inv, hB, h => by
    simp only [List.map_cons, List.cons.injEq] at hl
    have h0 : ops[k]? = some o := hl.1.symm
    simp only [mixP, Bool.and_eq_true, decide_eq_true_eq] at hB
    obtain ⟨⟨⟨hkm, hr⟩, hf⟩, hB'⟩ := hB
    have hr' : k ∈ Region.ready md ops listed := by simpa using hr
    obtain ⟨v, hy, h'⟩ := h
    exact wpAnyT_first h0 hkm hsel hT _ listed a w inv (Region.free_spec h0 hf) hr' hy (mix_perm hsel hT ks l _ _ w hl.2 (inv.set hr' hkm) hB' h')
  | (k, false) :: ks, o :: l, listed, a, w, hl, inv, hB, h => by
    simp only [List.map_cons, List.cons.injEq] at hl
    have h0 : ops[k]? = some o := hl.1.symm
    simp only [mixP, Bool.and_eq_true, decide_eq_true_eq] at hB
    obtain ⟨⟨hkm, hr⟩, hB'⟩ := hB
    obtain ⟨hc, h'⟩ := h
    refine ⟨hc, fun h1 => (by rw [hr] at h1; cases h1), fun i hi => ?_⟩
    have hi' := hi
    rw [hr] at hi
    have hik : i = k := by simpa using hi
    subst hik
    refine ⟨hkm, ?_⟩
    have rec_ : ∀ a' w', wpMix P ops C Lq (ks.map (·.2)) l a' w' → wpAnyT P md ops C m (fun listed' a' w' => Region.seqB md ops g m listed' = true ∧ Lq a' w') l.length (listed.setIfInBounds i true) a' w' := fun a' w' h2 =>
      mix_perm hsel hT ks l _ a' w' hl.2 (inv.set hi' hkm) hB' h2
    unfold wpOp
    simp only [h0]
    rcases h' with ⟨hw, h'⟩ | ⟨hw, h'⟩
    · simp only [hw, if_true]
      exact .inl (Oper.wp_mono rec_ h')
    · simp only [hw, Bool.false_eq_true, if_false]
      exact rec_ _ _ h'
  | [], _ :: _, _, _, _, hl, _, _, _ => by simp at hl
  | (_, true) :: _, [], _, _, _, hl, _, _, _ => by simp at hl
  | (_, false) :: _, [], _, _, _, hl, _, _, _ => by simp at hl
theorem filterMap_some (l : List Oper) : ∀ (ks : List (Nat × Bool)), ks.all (fun x => decide (x.1 < l.length)) = true → (ks.filterMap fun x => l[x.1]?).map some = ks.map (fun x => l.toArray[x.1]?)
  | [], _ => rfl
  | x :: ks, h => by
    simp only [List.all_cons, Bool.and_eq_true, decide_eq_true_eq] at h
    have ih := filterMap_some l ks h.2
    rw [List.filterMap_cons, List.getElem?_eq_getElem h.1]
    simp only [List.map_cons]
    rw [ih, show l.toArray[x.1]? = some l[x.1] by simp [h.1]]
/-- the first operations in an order of ours, by kinds; the rest one behind the other -/
theorem wp_region_p {id : Nat} {Q : Exit → Act → World → Prop} {a : Act} {w : World} {l : List Oper} (ks : List (Nat × Bool)) (C : World → Prop) (hm : P.follows .mixedOrders = true)
    (hB : (ks.all (fun x => decide (x.1 < l.length)) && tailOkB l.toArray ks.length && mixP .any l.toArray (l.toArray.size - ks.length) ks.length ks (Array.replicate l.toArray.size false)) = true)
    (h : MixW P l.toArray C (fun a' w' => wpList P l.toArray Q (l.drop ks.length) a' w') (ks.map (·.2)) (ks.filterMap fun x => l[x.1]?) a w.drew) : (Code.region id l.toArray true).wp P Q a w := by
  rw [Bool.and_eq_true, Bool.and_eq_true] at hB
  obtain ⟨⟨hall, hok⟩, hlex⟩ := hB
  obtain ⟨hsel, hnl, hT⟩ := tailOkB_spec hok
  have hfm := filterMap_some l ks hall
  have hfl : (ks.filterMap fun x => l[x.1]?).length = ks.length := by simpa using congrArg List.length hfm
  have hdl : (l.drop ks.length).length = l.toArray.size - ks.length := by simp
  have H := mix_perm (P := P) (md := .any) (m := ks.length) (g := l.toArray.size - ks.length) (Region.noSelect_spec hsel) hT ks _ _ a w.drew hfm (inv_new ks.length) hlex h.go
  refine wp_region_any hm ?_
  have := wpAny_of_T (Q := Q) (g := l.toArray.size - ks.length) (fun listed a' w' hL => by
    have := wpAny_of_seq (md := .any) (Q' := Q) (l.drop ks.length) ks.length listed a' w' (fun j => by simp [List.getElem?_drop]) (by rw [hdl]; exact hL.1) hL.2
    rwa [hdl] at this) _ _ _ _ H
  rw [hfl, show ks.length + (l.toArray.size - ks.length) = l.toArray.size by simp at hnl ⊢; omega] at this
  exact this
end
end Go.Proofs.Ytdnljmncdbcgeaa

/- tenderlaw22: lives, Plays. -/
namespace Go.Proofs.Ytdnljmncdbcgeaa
open Go.RowKit Go.Maps

/-- entries taken, one after the other -/
def playB (T : List (List UInt8 × EP)) (l : List (List UInt8 × EP)) : List (List UInt8 × EP) := l.foldl (fun T y => (putP T y.1 y.2).1) T
theorem playB_snoc (T l : List (List UInt8 × EP)) (y : List UInt8 × EP) : playB T (l ++ [y]) = (putP (playB T l) y.1 y.2).1 := by simp [playB, List.foldl_append]
theorem BookOk.play {T l : List (List UInt8 × EP)} (h : BookOk T) : BookOk (playB T l) := by
  induction l generalizing T with
  | nil => exact h
  | cons y l ih => exact ih (h.put y.1 y.2)
/-- a book that took entries, and the document's -/
structure PlayedB (w : World) (T : List (List UInt8 × EP)) (bb : Nat) (mo : Option Nat) (L : List (List UInt8 × EV)) (s : Int) (B : Option Addr) (M : List EV) : Prop where
  book : BookAt w bb mo L s
  plain : Hid (plainB L = T)
  es : EsR w B M
  same : Hid (M.map EV.pl = T)
theorem PlayedB.below {w w' : World} {T : List (List UInt8 × EP)} {bb : Nat} {mo : Option Nat} {L : List (List UInt8 × EV)} {s : Int} {B : Option Addr} {M : List EV} (h : PlayedB w T bb mo L s B M) (k : Below w.heap.size w w') : PlayedB w' T bb mo L s B M := ⟨h.book.below k, h.plain, h.es.below k, h.same⟩
theorem PlayedB.ok {w : World} {T : List (List UInt8 × EP)} {bb : Nat} {mo : Option Nat} {L : List (List UInt8 × EV)} {s : Int} {B : Option Addr} {M : List EV} (h : PlayedB w T bb mo L s B M) : BookOk T := by rw [← h.plain.out]; exact h.book.plain
/-- entries stay where a book is written -/
theorem EsR.notMap {w w' : World} {A : Option Addr} {M : List EV} {mb : Nat} {K : List (List UInt8 × Value)} (h : EsR w A M) (hm : MapAt w Try.prog 9 mb K) (k : Fr (fun x => x = mb) w w') : EsR w' A M := by
  have hr : Rd w (fun b => b ≠ mb) 4 A M.length (M.flatMap EV.cells) := by
    refine ⟨h.rd.1, fun hn => ?_⟩
    obtain ⟨b, off, e, hz, hlt, hc⟩ := h.rd.2 hn
    refine ⟨b, off, e, fun eb => ?_, hlt, hc⟩
    subst eb
    rcases M with _ | ⟨x, M⟩
    · simp at hn
    · have h1 := hc 0 (.string x.p) rfl
      obtain ⟨D, ⟨es, clock, h2, _⟩, _⟩ := hm.own
      simp [World.cell?, h2] at h1
  exact ⟨(hr.fr k (fun b _ hz e => hz e)).mono (fun _ _ _ => trivial), fun x hx => ⟨((((h.ok x hx).1).not_mapAt hm).fr k (fun b _ hz e => hz.2 e)).mono (fun _ _ _ => trivial), (h.ok x hx).2⟩, h.len⟩
/-- entries stay where a book is written -/
theorem EsR.bookTo {w w' : World} {A : Option Addr} {M : List EV} {bb : Nat} {mo : Option Nat} {L : List (List UInt8 × EV)} {s : Int} (h : EsR w A M) (hb : BookAt w bb mo L s) (k : Fr (fun g => g = bb ∨ mo = some g) w w') : EsR w' A M := by
  have hin : ∀ {A : Option Addr} {n sz : Nat} {xs : List Value}, Rd w (fun _ => True) sz A n xs → (0 < n * sz → ∃ u, xs[0]? = some u ∧ u ≠ .int .u64 s ∧ u ≠ .map mo) → Rd w (fun b => ¬ (b = bb ∨ mo = some b)) sz A n xs := fun {A n sz xs} h1 h2 => by
    refine ⟨h1.1, fun hn => ?_⟩
    obtain ⟨b, off, e, hz, hlt, hc⟩ := h1.2 hn
    obtain ⟨u, hu, hu1, hu2⟩ := h2 hn
    refine ⟨b, off, e, ?_, hlt, hc⟩
    have h3 := hc 0 u hu
    rw [Nat.add_zero] at h3
    rintro (rfl | hm)
    · rw [hb.blk.cell] at h3
      rcases off with _ | _ | off
      · simp at h3; exact hu1 h3.symm
      · simp at h3; exact hu2 h3.symm
      · simp at h3
    · rcases hb.map with ⟨e0, _⟩ | ⟨mb, e0, hm2⟩
      · rw [e0] at hm; cases hm
      · rw [e0] at hm
        injection hm with hm
        subst hm
        obtain ⟨D, ⟨es, clock, h4, _⟩, _⟩ := hm2.own
        simp [World.cell?, h4] at h3
  refine ⟨((hin h.rd (fun hn => ?_)).fr k (fun b _ hz e => hz e)).mono (fun _ _ _ => trivial), fun x hx => ⟨((hin (h.ok x hx).1 (fun hn => ?_)).fr k (fun b _ hz e => hz e)).mono (fun _ _ _ => trivial), (h.ok x hx).2⟩, h.len⟩
  · rcases M with _ | ⟨x, M⟩
    · simp at hn
    · exact ⟨.string x.p, rfl, by simp, by simp⟩
  · rcases hl : x.x.l with _ | ⟨y, l⟩
    · rw [hl] at hn; simp at hn
    · exact ⟨bv y, by simp, by simp [bv], by simp [bv]⟩
theorem Ents.esr {w : World} {Z : Nat → Prop} {A : Option Addr} {l : List EV} (h : Ents w Z A l) (hl : l.length ≤ 1000000) : EsR w A l := ⟨h.rd.mono (fun _ _ _ => trivial), fun x hx => (h.ok x hx).x.mono (fun _ _ _ => trivial), hl⟩
theorem lightE_all {l : List EV} (h : lightE l = true) : l.length ≤ 400 ∧ ∀ x ∈ l, x.p.size ≤ 20000 ∧ x.x.l.length ≤ 20000 := by
  unfold lightE at h
  rw [Bool.and_eq_true, decide_eq_true_eq, decide_eq_true_eq] at h
  refine ⟨h.2, fun x hx => ?_⟩
  have : lenE x ≤ lensE l := by
    have h1 := h.1
    clear h h1
    induction l with
    | nil => cases hx
    | cons y l ih =>
      unfold lensE at *
      rw [List.map_cons, List.sum_cons]
      rcases List.mem_cons.1 hx with rfl | hx
      · omega
      · have := ih hx; omega
  unfold lenE at this
  omega

set_option maxRecDepth 100000 in
set_option maxHeartbeats 2000000 in
theorem plays22_any (A : Option Addr) (c : Nat) (l : List EV) (Z : Nat → Prop) (w : World) (h : Ents w Z A l) (hl : l.length ≤ 400 ∧ ∀ x ∈ l, x.p.size ≤ 20000 ∧ x.x.l.length ≤ 20000) :
    Calls Try.prog 13 #[.slice A l.length c] w fun e w' => ∃ (bb : Nat) (mo : Option Nat) (L : List (List UInt8 × EV)) (B : Option Addr) (d : Nat) (M : List EV), e = .returned (.tuple #[.pointer (some ⟨bb, 0, none⟩), .agg #[.int .u64 0, .slice B M.length d], .bool true]) ∧ PlayedB w' (playB [] (l.map EV.pl)) bb mo L 0 B M ∧
      w.heap.size ≤ bb ∧ (∀ m, mo = some m → w.heap.size ≤ m) ∧ Below w.heap.size w w' := by
  have hb0 : Below w.heap.size w (w.alloc (.cells #[.int .u64 0, .slice none 0 0] 33)) := (by repeat (first | exact Below.refl _ _ | refine Below.alloc ?_ (by simp) _ | refine Below.setCell ?_ (by simp) _ | refine Below.drew ?_))
  have x0 := Blk.new w 33 #[.int .u64 0, .slice none 0 0]
  have HA := Lib.hid h
  have HL := Lib.hid hl.2
  have hll := hl.1
  clear h hl
  go_enter Try.func13, Try.ntmps13
  go_wp2_with fail
  generalize w.alloc (.cells #[.int .u64 0, .slice none 0 0] 33) = w0 at *
  refine (bookNew_any w0).mono ?_
  rintro e w1 ⟨bb, rfl, hB1, hbb, hb1⟩
  have hw1 := hb0.trans (hb1.mono hb0.size)
  have x1 := x0.below hb1
  have hba : Below w1.heap.size w1 (w1.alloc (.cells #[.int .u64 0, .slice none 0 0] 33)) := (Below.refl _ _).alloc (Nat.le_refl _) _
  have y2 := Blk.new w1 33 #[.int .u64 0, .slice none 0 0]
  have x2 := x1.below hba
  have hw2 := hw1.trans (hba.mono hw1.size)
  have hB2 := hB1.below hba
  have hbl := hB1.blk.lt
  have HB2 := Lib.hid hB2
  have hsz0 := hb0.size
  obtain ⟨yb, hyb⟩ : ∃ yb, yb = w1.heap.size := ⟨_, rfl⟩
  clear hB1 hB2 x0 x1 hb0 hb1
  go_upto_region 4 with (fail)
  generalize w1.alloc (.cells #[.int .u64 0, .slice none 0 0] 33) = w2 at *
  rw [← hyb] at y2 hbl ⊢
  have hxy : w.heap.size ≠ yb := by have := x2.lt; have := hw1.size; omega
  clear hba hyb
  go_wp2_with fail
  go_loopw [18] (fun iv wr => ∃ (i : Nat) (mo : Option Nat) (L : List (List UInt8 × EV)) (B : Option Addr) (d : Nat) (M : List EV), i ≤ l.length ∧ iv = .int .i64 (i : Int) ∧ Blk wr yb 33 #[.int .u64 0, .slice B M.length d] ∧ Blk wr w.heap.size 33 #[.int .u64 0, .slice none 0 0] ∧ PlayedB wr (playB [] ((l.take i).map EV.pl)) bb mo L 0 B M ∧ (∀ m, mo = some m → w.heap.size ≤ m) ∧ Below w.heap.size w wr) (fun iv _ => l.length - (intOf iv).toNat)
  case atStart => exact ⟨0, none, [], none, 0, [], Nat.zero_le _, rfl, y2, x2, ⟨HB2.out, rfl, ⟨Rd.nil, by simp, by simp⟩, rfl⟩, by simp, hw2⟩
  case round =>
    clear x2 y2 hw2 HB2
    obtain ⟨i, mo, L, B, d, M, hi, rfl, y2, x2, hP, hmo, hb⟩ := hrel
    by_cases hlt : i < l.length
    · have hA := HA.out.below hb
      obtain ⟨b, off, rfl, _, hbb', c0, c1, c2, c3⟩ := ent_at hA.rd hlt
      have hxo := hA.ok _ (List.getElem_mem hlt)
      have hxl := HL.out _ (List.getElem_mem hlt)
      have hps : Hid (playB [] ((l.take (i + 1)).map EV.pl) = (putP (playB [] ((l.take i).map EV.pl)) (tl l[i].p) l[i].ep).1) := Lib.hid (by rw [pl_snoc l i hlt, playB_snoc]; rfl)
      obtain ⟨x, hx⟩ : ∃ x, x = l[i] := ⟨_, rfl⟩
      rw [← hx] at c0 c1 c2 c3 hxo hxl hps
      obtain ⟨T, hT⟩ : ∃ T, T = playB [] ((l.take i).map EV.pl) := ⟨_, rfl⟩
      rw [← hT] at hP hps
      obtain ⟨hx1, hx2⟩ := hxl
      have hba : Below wr.heap.size wr (wr.alloc (.cells #[.string x.p, .int .u64 x.v, .int .i64 x.k, .slice x.x.A x.x.l.length x.x.c] 28)) := (Below.refl _ _).alloc (Nat.le_refl _) _
      have z3 := Blk.new wr 28 #[.string x.p, .int .u64 x.v, .int .i64 x.k, .slice x.x.A x.x.l.length x.x.c]
      have HP3 := Lib.hid (hP.below hba)
      have HX3 := Lib.hid (hxo.x.below hba)
      have hw3 := hb.trans (hba.mono hb.size)
      have hv := hxo.v
      have hyl := y2.lt
      have hxl0 := x2.lt
      replace x2 := x2.below hba
      replace y2 := y2.below hba
      clear hP hA hxo hx hT
      go_upto_region 7 with (fail)
      generalize wr.alloc (.cells #[.string x.p, .int .u64 x.v, .int .i64 x.k, .slice x.x.A x.x.l.length x.x.c] 28) = w3 at *
      have p0 := y2.cell 0
      have p1 := y2.cell 1
      simp only [List.getElem?_toArray, List.getElem?_cons_zero, List.getElem?_cons_succ] at p0 p1
      have q0 := z3.cell 0
      have q1 := z3.cell 1
      have q2 := z3.cell 2
      have q3 := z3.cell 3
      simp only [List.getElem?_toArray, List.getElem?_cons_zero, List.getElem?_cons_succ] at q0 q1 q2 q3
      have HE := Lib.hid (refPut22_any B d M 0 x w3 HP3.out.es (HX3.out.mono (fun _ _ _ => trivial)) (by omega) hv (by omega) (by rw [HP3.out.same.out]; exact HP3.out.ok))
      rw [HP3.out.same.out] at HE
      have HBP := Lib.hid (fun w (hB : BookAt w bb mo L 0) (hy : By w (fun _ => True) x.x.A x.x.l) => bookPut_any bb mo L 0 (tl x.p) x.v x.k x.x.A x.x.c x.x.l _ w hB hy (by rw [tl_len]; omega) hv (by omega))
      rw [HP3.out.plain.out] at HBP
      obtain ⟨R, hR⟩ : ∃ R, R = putP T (tl x.p) x.ep := ⟨_, rfl⟩
      rw [show putP T (tl x.p) (x.v, x.k, x.x.l) = R from hR.symm] at HBP
      rw [← hR] at HE hps
      obtain ⟨T', E⟩ := R
      dsimp only at HE HBP hps
      clear hba hR
      go_wp2_with fail
      refine HE.out.mono ?_
      rintro e w4 ⟨⟨B4, d4, M4, rfl, hM4, hE4⟩, hb4⟩
      have hw4 := hw3.trans (hb4.mono hw3.size)
      have hba : Below w4.heap.size w4 (w4.alloc (.cells #[.int .u64 0, .slice B4 M4.length d4] 33)) := (Below.refl _ _).alloc (Nat.le_refl _) _
      have y5 := Blk.new w4 33 #[.int .u64 0, .slice B4 M4.length d4]
      have hw5 := hw4.trans (hba.mono hw4.size)
      have HB5 := Lib.hid ((HP3.out.book.below hb4).below hba)
      have HX5 := Lib.hid (((HX3.out.below hb4).below hba).1.mono (fun _ _ _ => trivial))
      have HM5 := Lib.hid hM4
      have HE5 := Lib.hid (hE4.below hba)
      replace x2 := (x2.below hb4).below hba
      replace y2 := (y2.below hb4).below hba
      replace z3 := (z3.below hb4).below hba
      have hs4 := hb4.size
      have hs3 := hw3.size
      have hz3l := z3.lt
      clear hM4 hE4 hb4 HE HX3 HP3 p0 p1 q0 q1 q2 q3
      go_upto_region 8 with (fail)
      generalize w4.alloc (.cells #[.int .u64 0, .slice B4 M4.length d4] 33) = w5 at *
      have q0 := z3.cell 0
      have q1 := z3.cell 1
      have q2 := z3.cell 2
      have q3 := z3.cell 3
      simp only [List.getElem?_toArray, List.getElem?_cons_zero, List.getElem?_cons_succ] at q0 q1 q2 q3
      clear hba
      go_wp2_with fail
      refine (HBP.out w5 HB5.out HX5.out).mono ?_
      rintro e w6 ⟨rfl, hto⟩
      obtain ⟨⟨mo', L', hB6, hL6, hmo6⟩, hfr⟩ := hto
      have n1 := HB5.out.notB x2 (by decide)
      have n2 := HB5.out.notB y2 (by decide)
      have n5 := HB5.out.notB y5 (by decide)
      have x6 := x2.fr hfr n1
      have y6 := y2.fr hfr n2
      have y56 := y5.fr hfr n5
      have HE6 := Lib.hid (HE5.out.bookTo HB5.out hfr)
      have HB6 := Lib.hid hB6
      have hL6' := Lib.hid hL6.out
      have hw6 : Below w.heap.size w w6 := hw5.trans (hfr.below hw5.size (fun k hk e => by
        rcases e with e | e
        · omega
        · have := hmo _ e; omega))
      have hmo7 : ∀ m, mo' = some m → w.heap.size ≤ m := fun m e => by
        rcases hmo6 m e with e | e
        · exact hmo m e
        · have := hw5.size; omega
      have hne : (E != E) = false := by simp
      have kR : Fr (fun x => x = yb) w6 ((w6.setCell ⟨yb, 0, none⟩ (.int .u64 0)).setCell ⟨yb, 1, none⟩ (.slice B4 M4.length d4)) := ((Fr.refl (fun x => x = yb) w6).setAt yb _ rfl _).setAt yb _ rfl _
      have yR := (y6.set_ 0 (.int .u64 0)).set_ 1 (.slice B4 M4.length d4)
      simp only [List.setIfInBounds_toArray, List.set_cons_zero, List.set_cons_succ] at yR
      have xR := x6.fr kR (fun e => hxy e)
      have HB7 := Lib.hid (HB6.out.fr_blk y6 (by decide) (by decide) kR)
      have HE7 := Lib.hid (HE6.out.notBook y6 (by simp) (by simp) kR)
      have hw7 := hw6.trans (kR.below (B := w.heap.size) hw6.size (fun k hk e => by omega))
      have r0 := y56.cell 0
      have r1 := y56.cell 1
      simp only [List.getElem?_toArray, List.getElem?_cons_zero, List.getElem?_cons_succ] at r0 r1
      have fr := fun o => y6.frozen o
      have p0 := y6.cell 0
      have p1 := y6.cell 1
      simp only [List.getElem?_toArray, List.getElem?_cons_zero, List.getElem?_cons_succ] at p0 p1
      have hs6 := hw6.size
      clear hfr hB6 hL6 HB5 HX5 HE5 HBP n1 n2 n5 x2 y2 y5 z3 q0 q1 q2 q3 x6 y56 hmo6
      go_wp2_with fail
      generalize (w6.setCell ⟨yb, 0, none⟩ (.int .u64 0)).setCell ⟨yb, 1, none⟩ (.slice B4 M4.length d4) = w7 at *
      go_roundw
      case rel => exact ⟨i + 1, mo', L', B4, d4, M4, hlt, by go_num, yR, xR, ⟨HB7.out, by show _ = _; rw [hL6'.out, hps.out], HE7.out, by show _ = _; rw [HM5.out.out, hps.out]⟩, hmo7, hw7⟩
      case measure => simp [intOf]; omega
    · have e : i = l.length := by omega
      subst e
      rw [List.take_length] at hP
      go_wp2_with fail
      refine wp_region_m [true, true, true] (fun W => Below wr.heap.size wr W) (by kernel_rfl) (by kernel_rfl) ?_
      simp only [List.length_cons, List.length_nil, Nat.zero_add, Nat.reduceAdd, List.take_succ_cons, List.take_zero, List.drop_succ_cons, List.drop_zero]
      refine mx_move _ (by kernel_rfl) rfl ⟨_, (by ((try simp [go_sem]); (try rfl); done)), _, (by (simp only [Act.put, List.setIfInBounds_toArray, List.set_cons_zero, List.set_cons_succ]; rfl)), ?_⟩
      refine mx_val (by kernel_rfl) ⟨_, (by (intro w' hC; (have q0 := (y2.below hC).cell 0; have q1 := (y2.below hC).cell 1; simp only [List.getElem?_toArray, List.getElem?_cons_zero, List.getElem?_cons_succ] at q0 q1); clear hC; (try go_simp); (try with_reducible rfl); done)), _, (by (simp only [Act.put, List.setIfInBounds_toArray, List.set_cons_zero, List.set_cons_succ]; rfl)), ?_⟩
      refine mx_assign _ (by kernel_rfl) rfl ⟨_, (by ((try simp [go_sem]); (try rfl); done)), _, (by (simp only [Act.put, List.setIfInBounds_toArray, List.set_cons_zero, List.set_cons_succ]; rfl)), ?_⟩
      refine mx_end (Below.refl _ _).drew ?_
      have hbd : Below wr.heap.size wr wr.drew := (Below.refl _ _).drew
      replace hP := hP.below hbd
      replace x2 := x2.below hbd
      replace hb := hb.trans (hbd.mono hb.size)
      clear y2 hbd
      generalize wr.drew = wd at *
      have kR : Fr (fun x => x = w.heap.size) wd ((wd.setCell ⟨w.heap.size, 0, none⟩ (.int .u64 0)).setCell ⟨w.heap.size, 1, none⟩ (.slice B M.length d)) := ((Fr.refl (fun x => x = w.heap.size) wd).setAt (w.heap.size) _ rfl _).setAt (w.heap.size) _ rfl _
      have yR := (x2.set_ 0 (.int .u64 0)).set_ 1 (.slice B M.length d)
      simp only [List.setIfInBounds_toArray, List.set_cons_zero, List.set_cons_succ] at yR
      have hwR := hb.trans (kR.below (B := w.heap.size) hb.size (fun k hk e => by omega))
      have HPR := Lib.hid (PlayedB.mk (hP.book.fr_blk x2 (by decide) (by decide) kR) hP.plain (hP.es.notBook x2 (by simp) (by simp) kR) hP.same)
      have fr := fun o => x2.frozen o
      have r0 := x2.cell 0
      have r1 := x2.cell 1
      simp only [List.getElem?_toArray, List.getElem?_cons_zero, List.getElem?_cons_succ] at r0 r1
      clear hP
      go_wp2_with fail
      generalize (wd.setCell ⟨w.heap.size, 0, none⟩ (.int .u64 0)).setCell ⟨w.heap.size, 1, none⟩ (.slice B M.length d) = wR at *
      have s0 := yR.cell 0
      have s1 := yR.cell 1
      simp only [List.getElem?_toArray, List.getElem?_cons_zero, List.getElem?_cons_succ] at s0 s1
      refine bodyPost_ret (v := .tuple #[.pointer (some ⟨bb, 0, none⟩), .agg #[.int .u64 0, .slice B M.length d], .bool true]) (by simp [results, Try.results13, go_sem, s0, s1]) rfl ?_
      exact ⟨bb, mo, L, B, d, M, rfl, HPR.out, by omega, hmo, hwR⟩

end Go.Proofs.Ytdnljmncdbcgeaa

/- tenderlaw22: lives. -/
namespace Go.Proofs.Ytdnljmncdbcgeaa
open Go.RowKit Go.Maps

def exBk : List (List UInt8 × EP) := [([97], (1048577, 2, []))]
theorem exB1 : putP [] [97] (1048577, 2, []) = (exBk, 0) := by decide
theorem exB2 : putP exBk [97] (1048577, 2, []) = (exBk, 31) := by decide
/-- one call of Put of an entry without bytes -/
theorem put_step {w : World} {bb : Nat} {mo : Option Nat} {L : List (List UInt8 × EV)} {T T' : List (List UInt8 × EP)} {m s : Int} (p : List UInt8) (v k : Int) (h : BookAt w bb mo L s) (hT : Hid (plainB L = T)) (hm : putP T p (v, k, []) = (T', m)) (hp : p.length ≤ 1048576) (hv : 0 ≤ v ∧ v < 18446744073709551616) :
    Calls Try.prog 15 #[.pointer (some ⟨bb, 0, none⟩), .agg #[.string ⟨⟨p⟩⟩, .int .u64 v, .int .i64 k, .slice none 0 0]] w fun e w' => e = .returned (.int .i64 m) ∧ ∃ mo' L', BookAt w' bb mo' L' s ∧ Hid (plainB L' = T') ∧ (∀ m, mo' = some m → mo = some m ∨ w.heap.size ≤ m) ∧ Fr (fun g => g = bb ∨ mo = some g) w w' := by
  refine (bookPut_any bb mo L s p v k none 0 [] (fun _ => True) w h Rd.nil hp hv (by simp)).mono ?_
  rintro e w' ⟨rfl, hto⟩
  rw [hT.out, hm] at hto ⊢
  obtain ⟨mo', L', h1, h2, h3⟩ := hto.at_
  exact ⟨rfl, mo', L', h1, h2, h3, hto.fr⟩
set_option maxRecDepth 100000 in
set_option maxHeartbeats 1000000 in
theorem lives22_any (w : World) : Calls Try.prog 12 #[] w fun e w' => e = .returned (.bool true) ∧ Below w.heap.size w w' := by
  go_enter Try.func12, Try.ntmps12
  go_wp2_with fail
  refine (bookNew_any w).mono ?_
  rintro e w1 ⟨bb, rfl, hB1, hbb, hb1⟩
  have hba : Below w1.heap.size w1 (w1.alloc (.cells #[.string ⟨#[97]⟩, .int .u64 1048577, .int .i64 2, .slice none 0 0] 28)) := (Below.refl _ _).alloc (Nat.le_refl _) _
  have z2 := Blk.new w1 28 #[.string ⟨#[97]⟩, .int .u64 1048577, .int .i64 2, .slice none 0 0]
  have HB2 := Lib.hid (hB1.below hba)
  have hw2 := hb1.trans (hba.mono hb1.size)
  have hL0 : Hid (plainB ([] : List (List UInt8 × EV)) = []) := rfl
  obtain ⟨xb, hxb⟩ : ∃ xb, xb = w1.heap.size := ⟨_, rfl⟩
  clear hB1 hb1
  go_upto_region 3 with (fail)
  generalize w1.alloc (.cells #[.string ⟨#[97]⟩, .int .u64 1048577, .int .i64 2, .slice none 0 0] 28) = w2 at *
  rw [← hxb] at z2 ⊢
  clear hxb hba
  have q0 := z2.cell 0
  have q1 := z2.cell 1
  have q2 := z2.cell 2
  have q3 := z2.cell 3
  simp only [List.getElem?_toArray, List.getElem?_cons_zero, List.getElem?_cons_succ] at q0 q1 q2 q3
  go_wp2_with fail
  refine (put_step [97] 1048577 2 HB2.out hL0 exB1 (by decide) (by decide)).mono ?_
  rintro e w3 ⟨rfl, mo3, L3, hB3, hL3, hmo3, hfr3⟩
  have z3 := z2.fr hfr3 (HB2.out.notB z2 (by decide))
  have hw3 := hw2.trans (hfr3.below (B := w.heap.size) hw2.size (fun k hk e => by
    rcases e with e | e
    · omega
    · cases e))
  have hmo3' : ∀ m, mo3 = some m → w.heap.size ≤ m := fun m e => by
    rcases hmo3 m e with e | e
    · cases e
    · have := hw2.size; omega
  have HB3 := Lib.hid hB3
  clear q0 q1 q2 q3 z2 hfr3 hB3 hmo3 HB2
  have q0 := z3.cell 0
  have q1 := z3.cell 1
  have q2 := z3.cell 2
  have q3 := z3.cell 3
  simp only [List.getElem?_toArray, List.getElem?_cons_zero, List.getElem?_cons_succ] at q0 q1 q2 q3
  go_wp2_with fail
  refine (put_step [97] 1048577 2 HB3.out hL3 exB2 (by decide) (by decide)).mono ?_
  rintro e w4 ⟨rfl, mo4, L4, hB4, hL4, hmo4, hfr4⟩
  have hw4 := hw3.trans (hfr4.below (B := w.heap.size) hw3.size (fun k hk e => by
    rcases e with e | e
    · omega
    · have := hmo3' _ e; omega))
  have hlen : L4.length = 1 := by rw [← plainB_len, hL4.out]; rfl
  have HG := Lib.hid (bookGet_any bb mo4 L4 0 [98] w4 hB4 (by decide))
  have hgv : Hid ((gotE L4 [98]).v = 0) := Lib.hid (by
    have := get_plainB L4 [98]
    rw [hL4.out] at this
    rcases hg : getR L4 [98] with _ | o
    · unfold gotE; rw [hg]; rfl
    · rw [hg, show getR exBk [98] = none by decide] at this; cases this)
  have HB4 := Lib.hid hB4
  clear q0 q1 q2 q3 z3 hfr4 hB4 hmo4 HB3 hL4
  go_wp2_with fail
  refine (bookLen_any bb mo4 L4 0 w4 HB4.out).mono ?_
  rintro e w5 ⟨rfl, rfl⟩
  rw [hlen]
  go_wp2_with fail
  refine HG.out.mono ?_
  rintro e w6 ⟨q, v, k, A, c, l, rfl, hq, ho, hb6⟩
  obtain rfl : v = 0 := hq.out.2.1.trans hgv.out
  have hfd := fun W => (show (Instr.field 28 (.agg #[.string q, .int .u64 0, .int .i64 k, .slice A l.length c]) 1).run Try.prog W = .ok (.int .u64 0) W by kernel_rfl)
  have hw6 := hw4.trans (hb6.mono hw4.size)
  clear hq ho HG hgv
  go_wp2_with fail
  go_ret
  exact ⟨rfl, hw6⟩
end Go.Proofs.Ytdnljmncdbcgeaa

/- book.Book and tenderref22: Rows. -/
namespace Go.Proofs.Ytdnljmncdbcgeaa
open Go.RowKit Go.Maps

/-- a row's cells -/
def rowC (y : List UInt8 × EP) : List Value := [.string ⟨⟨y.1⟩⟩, .int .i64 y.2.2.1, .int .u64 y.2.1, .int .u64 0, .int .i64 (y.2.2.2.length : Int)]
theorem rowC_len (y : List UInt8 × EP) : (rowC y).length = 5 := rfl
def OwRw (w : World) (base : Nat) (A : Option Addr) (c : Nat) (l : List (List UInt8 × EP)) : Prop := w.ownsRow base 52 5 (.slice A l.length c) l.length (l.flatMap rowC)
theorem row_info : (Try.prog.info? 52).map (fun i => (i.zero, i.size, i.bytes)) = some (some (.agg #[.string ⟨#[]⟩, .int .i64 0, .int .u64 0, .int .u64 0, .int .i64 0]), 5, 48) := by kernel_rfl
theorem row_one (L : List (List UInt8 × EP)) : ∀ u ∈ L.flatMap rowC, u.oneCell' = true := by
  intro u hu
  obtain ⟨x, _, hx⟩ := List.mem_flatMap.1 hu
  simp only [rowC, List.mem_cons, List.not_mem_nil, or_false] at hx
  rcases hx with rfl | rfl | rfl | rfl | rfl <;> rfl
/-- append of one row -/
theorem wpList_append_rw {w : World} {ops : Array Oper} {rest : List Oper} {o : Oper} {a : Act} {Q : Exit → Act → World → Prop} (hgd : o.guard = none) (s x : Operand) {t : TypeId} (hu : Try.prog.underlying t = some (.slice 52))
    (ho : o.op = .call { callee := .builtin .append, args := #[s, x], argTypes := #[t, t] })
    {base : Nat} {A : Option Addr} {c : Nat} {L : List (List UInt8 × EP)} {y : List UInt8 × EP} {g : Nat} (hs : a.eval s = .slice A L.length c) (hown : OwRw w base A c L) (hx : a.eval x = .slice (some ⟨g, 0, none⟩) 1 1) (hr : Rd w (fun _ => True) 5 (some ⟨g, 0, none⟩) 1 (rowC y))
    (hsum : L.length + 1 ≤ 1099511627776) (hbase : base ≤ w.heap.size)
    (h : ∀ (A' : Option Addr) (c' : Nat) (w' : World), OwRw w' base A' c' (L ++ [y]) → Below base w w' → wpList Try.prog ops Q rest (a.put o.dst (.slice A' (L.length + 1) c')) w') : wpList Try.prog ops Q (o :: rest) a w := by
  obtain ⟨i0, hi0, hz0, hz1, hz2⟩ := info_parts row_info
  refine wpList_append_any w hgd s x _ ho base 52 i0 _ 5 48 hu hi0 hz0 hz1 hz2 rfl (by omega) (.slice A L.length c) L.length (L.flatMap rowC) hs hown _ _ 1 1 (rowC y) hx hr (fun u hu => row_one [y] u (by simpa using hu)) (by simp only [maxLen]; omega) (by omega) hbase ?_
  intro v' w' h1 h2 h3
  obtain ⟨A', c', rfl, _⟩ := own_form h1
  refine h A' c' w' ?_ (grown_below h2 hbase (fun g e => (hown.lt g e).1))
  unfold OwRw
  rw [List.length_append, List.flatMap_append, List.flatMap_cons, List.flatMap_nil, List.append_nil]
  exact h1
/-- is a path behind another one? -/
def behB (a p : List UInt8) : Bool := (a == []) || decide (0 < cmpT p a)
def rowsGo (a : List UInt8) (n : Int) : List (List UInt8 × EP) → List (List UInt8 × EP) → List (List UInt8 × EP) × Bool
  | [], acc => (acc, false)
  | y :: T, acc => if behB a y.1 = false then rowsGo a n T acc else if n ≤ (acc.length : Int) then (acc, true) else rowsGo a n T (acc ++ [y])
theorem rowsGo_cons (a : List UInt8) (n : Int) (y : List UInt8 × EP) (T acc : List (List UInt8 × EP)) : rowsGo a n (y :: T) acc = if behB a y.1 = false then rowsGo a n T acc else if n ≤ (acc.length : Int) then (acc, true) else rowsGo a n T (acc ++ [y]) := rfl
theorem plainB_drop (L : List (List UInt8 × EV)) (i : Nat) (hi : i < L.length) : (plainB L).drop i = (L[i].1, L[i].2.ep) :: (plainB L).drop (i + 1) := by
  have h : i < (plainB L).length := by rw [plainB_len]; exact hi
  rw [List.drop_eq_getElem_cons h]
  congr 1
  simp [plainB]
theorem pl_drop (M : List EV) (i : Nat) (hi : i < M.length) : (M.map EV.pl).drop i = M[i].pl :: (M.map EV.pl).drop (i + 1) := by
  have h : i < (M.map EV.pl).length := by rw [List.length_map]; exact hi
  rw [List.drop_eq_getElem_cons h]
  simp
/-- rows told -/
def RwOwn (w : World) (base : Nat) (e : Ending) (R : List (List UInt8 × EP) × Bool) : Prop :=
  ∃ (A : Option Addr) (c : Nat) (l : List (List UInt8 × EP)) (b : Bool), e = .returned (.tuple #[.slice A l.length c, .bool b]) ∧ Hid ((l, b) = R) ∧ OwRw w base A c l
set_option maxRecDepth 100000 in
set_option maxHeartbeats 400000 in
theorem rows1_any (a p : List UInt8) (xb : Nat) (w : World) (hx : Blk w xb 9 #[.string ⟨⟨a⟩⟩]) (ha : a.length ≤ 9223372036854775807) (hp : p.length ≤ 9223372036854775807) :
    Calls Try.prog 59 #[.string ⟨⟨p⟩⟩, .pointer (some ⟨xb, 0, none⟩)] w fun e w' => e = .returned (.bool (behB a p)) ∧ Below w.heap.size w w' := by
  have c0 := hx.cell 0
  simp only [List.getElem?_toArray, List.getElem?_cons_zero] at c0
  by_cases h : a = []
  · have hb : Hid (behB a p = true) := Lib.hid (by rw [h]; rfl)
    have he : (a == []) = true := by simpa using h
    rw [hb.out]
    clear h hx
    go_enter Try.func59, Try.ntmps59
    go_wp2_with fail
    go_ret
    exact ⟨rfl, Below.refl _ _⟩
  · have he : (a == []) = false := by simpa using h
    have hb : Hid (behB a p = decide (0 < cmpT p a)) := Lib.hid (by unfold behB; rw [he]; rfl)
    rw [hb.out]
    have HC := Lib.hid (compare_any ⟨⟨p⟩⟩ ⟨⟨a⟩⟩ hp ha w)
    rw [show cmpT (tl ⟨⟨p⟩⟩) (tl ⟨⟨a⟩⟩) = cmpT p a from rfl] at HC
    clear h hx hb
    generalize cmpT p a = cm at *
    go_enter Try.func59, Try.ntmps59
    go_wp2_with fail
    refine HC.out.mono ?_
    rintro e w1 ⟨rfl, hq⟩
    have hb1 := hq.below
    clear c0 HC hq
    go_wp2_with fail
    go_ret
    exact ⟨rfl, hb1⟩

set_option maxRecDepth 100000 in
set_option maxHeartbeats 2000000 in
theorem bookRows_any (bb : Nat) (mo : Option Nat) (L : List (List UInt8 × EV)) (s : Int) (a : List UInt8) (n : Int) (w : World) (h : BookAt w bb mo L s) (ha : a.length ≤ 140737488355328) :
    Calls Try.prog 22 #[.pointer (some ⟨bb, 0, none⟩), .string ⟨⟨a⟩⟩, .int .i64 n] w fun e w' => RwOwn w' w.heap.size e (rowsGo a n (plainB L) []) ∧ Below w.heap.size w w' := by
  have hb0 : Below w.heap.size w (w.alloc (.cells #[.string ⟨⟨a⟩⟩] 9)) := (by repeat (first | exact Below.refl _ _ | refine Below.alloc ?_ (by simp) _ | refine Below.setCell ?_ (by simp) _ | refine Below.drew ?_))
  have x0 := Blk.new w 9 #[.string ⟨⟨a⟩⟩]
  have HB := Lib.hid (h.below hb0)
  have HP := Lib.hid (bookPaths_any bb mo L s _ (h.below hb0))
  have HK := Lib.hid (fun x (hx : x ∈ L) => h.keys hx)
  have HS := Lib.hid h.sort
  have HIP := Lib.hid (fun x (hx : x ∈ L) => (h.ok x hx).p)
  have hll := h.len
  obtain ⟨R, hR⟩ : ∃ R, R = rowsGo a n (plainB L) [] := ⟨_, rfl⟩
  rw [← hR]
  have HR := Lib.hid hR
  clear h hR
  go_enter Try.func22, Try.ntmps22
  go_wp2_with fail
  generalize w.alloc (.cells #[.string ⟨⟨a⟩⟩] 9) = w0 at *
  refine HP.out.mono ?_
  rintro e w1 ⟨A1, c1, rfl, ho1, hb1⟩
  have hw1 := hb0.trans (hb1.mono hb0.size)
  have x1 := x0.below hb1
  have HO := Lib.hid ho1
  have HB1 := Lib.hid (HB.out.below hb1)
  clear HP HB ho1 x0 hb0 hb1
  go_wp2_with fail
  go_loopw [6, 15] (fun ov iv wr => ∃ (i : Nat) (A : Option Addr) (c : Nat) (l : List (List UInt8 × EP)), i ≤ L.length ∧ iv = .int .i64 (i : Int) ∧ ov = .slice A l.length c ∧ Hid (R = rowsGo a n ((plainB L).drop i) l) ∧ l.length ≤ i ∧ OwRw wr w1.heap.size A c l ∧ Below w1.heap.size w1 wr) (fun _ iv _ => L.length - (intOf iv).toNat)
  case atStart => exact ⟨0, none, 0, [], Nat.zero_le _, rfl, rfl, by show _ = _; rw [HR.out]; rfl, Nat.le_refl _, World.ownsRow_nil _ _ _ _, Below.refl _ _⟩
  case round =>
    obtain ⟨i, A, c, l, hi, rfl, rfl, hg, hli, ho, hb⟩ := hrel
    have hbr := hw1.trans (hb.mono hw1.size)
    by_cases hlt : i < L.length
    · have hkl : (keysR L).length = L.length := keys_len L
      obtain ⟨b, off, hA, hbb, c0⟩ := txt_atE hkl.symm (own_below HO.out hb) (i := i) (by rw [hkl]; exact hlt)
      have hlk : (keysR L)[i]'(by rw [hkl]; exact hlt) = L[i].1 := by simp [keysR]
      rw [hlk] at c0
      have hm := List.getElem_mem hlt
      have hg2 := hg.out
      rw [plainB_drop L i hlt, rowsGo_cons] at hg2
      have hx96 := HK.out _ hm
      have hip := HIP.out _ hm
      have HMM := Lib.hid hm
      subst hA
      obtain ⟨x, hx⟩ : ∃ x, x = L[i] := ⟨_, rfl⟩
      rw [← hx] at c0 hg2 hx96 hip HMM
      simp only [stv] at c0
      have HC := Lib.hid (rows1_any a x.1 w.heap.size wr (x1.below hb) (by omega) (by omega))
      clear hlk hkl hm hg hx
      cases hbe : behB a x.1
      · rw [if_pos hbe] at hg2
        rw [hbe] at HC
        have HG2 := Lib.hid hg2
        clear hg2 hbe
        go_wp2_with fail
        refine HC.out.mono ?_
        rintro e w2 ⟨rfl, hb2⟩
        have hw2 := hb.trans (hb2.mono hb.size)
        have ho2 := own_below ho hb2
        clear HC ho hb2
        go_wp2_with fail
        go_roundw
        case rel => exact ⟨i + 1, A, c, l, hlt, by go_num, rfl, HG2.out, by omega, ho2, hw2⟩
        case measure => simp [intOf]; omega
      · rw [if_neg (by rw [hbe]; simp)] at hg2
        rw [hbe] at HC
        clear hbe
        by_cases hn : n ≤ (l.length : Int)
        · have hnd : decide (n ≤ (l.length : Int)) = true := decide_eq_true hn
          rw [if_pos hn] at hg2
          have HG2 := Lib.hid hg2
          clear hg2 hn
          go_wp2_with fail
          refine HC.out.mono ?_
          rintro e w2 ⟨rfl, hb2⟩
          have hw2 := hbr.trans (hb2.mono hbr.size)
          have ho2 := own_below ho hb2
          clear HC ho hb2
          go_wp2_with fail
          refine bodyPost_ret (v := .tuple #[.slice A l.length c, .bool true]) (by simp [results, Try.results22, go_sem]) rfl ?_
          exact ⟨⟨A, c, l, true, rfl, HG2.out.symm, own_base ho2 (fun g hg => Nat.le_trans hw1.size (ho2.lt _ hg).1)⟩, hw2⟩
        · have hnd : decide (n ≤ (l.length : Int)) = false := decide_eq_false hn
          rw [if_neg hn] at hg2
          have HG2 := Lib.hid hg2
          obtain ⟨mb, rfl⟩ := HB1.out.some_of (by rintro rfl; exact absurd hlt (by simp))
          clear hg2 hn
          go_wp2_with fail
          refine HC.out.mono ?_
          rintro e w2 ⟨rfl, hb2⟩
          have hw2 := hb.trans (hb2.mono hb.size)
          have ho2 := own_below ho hb2
          have hB2 := HB1.out.below hw2
          have hlook := look_in hB2.mapSome HMM.out HS.out (by simp only [maxLen]; omega)
          unfold EV.val at hlook
          obtain ⟨_, c14⟩ := hB2.cells
          have HRW := Lib.hid (entryRow_any x.2.p x.2.v x.2.k x.2.x.A x.2.x.l.length x.2.x.c w2)
          clear HC ho hb2 hB2
          go_wp2_with fail
          refine HRW.out.mono ?_
          rintro e w3 ⟨rfl, hb3⟩
          have hpb : x.2.p = ⟨⟨x.1⟩⟩ := by rw [← hip]
          rw [hpb]
          unfold rowV
          have hs3 := hw2.size
          replace ho2 := own_below ho2 hb3
          replace hw2 := hw2.trans (hb3.mono hw2.size)
          have hba : Below w1.heap.size w1 (w3.alloc (.cells #[.string ⟨⟨x.1⟩⟩, .int .i64 x.2.k, .int .u64 x.2.v, .int .u64 0, .int .i64 x.2.x.l.length] 52)) := hw2.alloc hw2.size _
          have oa := Lib.hid (own_below ho2 ((Below.refl _ w3).alloc (Nat.le_refl _) (.cells #[.string ⟨⟨x.1⟩⟩, .int .i64 x.2.k, .int .u64 x.2.v, .int .u64 0, .int .i64 x.2.x.l.length] 52)))
          have ra : Hid (Rd (w3.alloc (.cells #[.string ⟨⟨x.1⟩⟩, .int .i64 x.2.k, .int .u64 x.2.v, .int .u64 0, .int .i64 x.2.x.l.length] 52)) (fun _ => True) 5 (some ⟨w3.heap.size, 0, none⟩) 1 (rowC (x.1, x.2.ep))) := (Rd.lit (w := w3) (t := 52) (size := 5) (n := 1) (xs := rowC (x.1, x.2.ep)) rfl rfl rfl).mono (fun _ _ _ => trivial)
          clear HRW hlook c14 ho2 hb3 hpb
          go_wp2_with (at_builtin; refine wpList_append_rw rfl (.tmp 28) (.tmp 36) (t := 47) rfl rfl rfl oa.out rfl ra.out (by omega) hba.size ?_; intro A5 c5 w5 ho5 hb5)
          have hb6 := hba.trans hb5
          have hlen5 : (l ++ [(x.1, x.2.ep)]).length = l.length + 1 := by simp
          go_roundw
          case rel => exact ⟨i + 1, A5, c5, l ++ [(x.1, x.2.ep)], hlt, by go_num, by rw [hlen5], HG2.out, by omega, ho5, hb6⟩
          case measure => simp [intOf]; omega
    · have e : i = L.length := by omega
      subst e
      have HG2 : Hid ((l, false) = R) := Lib.hid (by rw [hg.out, List.drop_eq_nil_of_le (by rw [plainB_len]; exact Nat.le_refl _)]; rfl)
      clear hg
      go_wp2_with fail
      refine bodyPost_ret (v := .tuple #[.slice A l.length c, .bool false]) (by simp [results, Try.results22, go_sem]) rfl ?_
      exact ⟨⟨A, c, l, false, rfl, HG2.out, own_base ho (fun g hg => Nat.le_trans hw1.size (ho.lt _ hg).1)⟩, hbr⟩


set_option maxRecDepth 100000 in
set_option maxHeartbeats 1000000 in
theorem refRow22_any (p : ByteArray) (v k : Int) (A : Option Addr) (n c : Nat) (w : World) :
    Calls Try.prog 63 #[.agg #[.string p, .int .u64 v, .int .i64 k, .slice A n c]] w fun e w' => e = .returned (rowV p k v n) ∧ Below w.heap.size w w' := by
  have hw2 : Below w.heap.size w ((w.alloc (.cells #[.string p, .int .u64 v, .int .i64 k, .slice A n c] 28)).alloc (.cells #[.string ⟨#[]⟩, .int .i64 0, .int .u64 0, .int .u64 0, .int .i64 0] 52)) := ((Below.refl _ _).alloc (Nat.le_refl _) _).alloc (by simp) _
  have y0 : Blk ((w.alloc (.cells #[.string p, .int .u64 v, .int .i64 k, .slice A n c] 28)).alloc (.cells #[.string ⟨#[]⟩, .int .i64 0, .int .u64 0, .int .u64 0, .int .i64 0] 52)) w.heap.size 28 #[.string p, .int .u64 v, .int .i64 k, .slice A n c] := (Blk.new w 28 #[.string p, .int .u64 v, .int .i64 k, .slice A n c]).below ((Below.refl _ _).alloc (Nat.le_refl _) _)
  have y1 : Blk ((w.alloc (.cells #[.string p, .int .u64 v, .int .i64 k, .slice A n c] 28)).alloc (.cells #[.string ⟨#[]⟩, .int .i64 0, .int .u64 0, .int .u64 0, .int .i64 0] 52)) (w.heap.size + 1) 52 #[.string ⟨#[]⟩, .int .i64 0, .int .u64 0, .int .u64 0, .int .i64 0] := by
    have := Blk.new (w.alloc (.cells #[.string p, .int .u64 v, .int .i64 k, .slice A n c] 28)) 52 #[.string ⟨#[]⟩, .int .i64 0, .int .u64 0, .int .u64 0, .int .i64 0]
    rwa [show (w.alloc (.cells #[.string p, .int .u64 v, .int .i64 k, .slice A n c] 28)).heap.size = w.heap.size + 1 by simp] at this
  go_enter Try.func63, Try.ntmps63
  go_upto_region 1 with (fail)
  generalize ((w.alloc (.cells #[.string p, .int .u64 v, .int .i64 k, .slice A n c] 28)).alloc (.cells #[.string ⟨#[]⟩, .int .i64 0, .int .u64 0, .int .u64 0, .int .i64 0] 52)) = w2 at *
  have q0 := y0.cell 0
  have q1 := y0.cell 1
  have q2 := y0.cell 2
  have q3 := y0.cell 3
  simp only [List.getElem?_toArray, List.getElem?_cons_zero, List.getElem?_cons_succ] at q0 q1 q2 q3
  have r0 := y1.cell 0
  have r1 := y1.cell 1
  have r2 := y1.cell 2
  have r3 := y1.cell 3
  have r4 := y1.cell 4
  simp only [List.getElem?_toArray, List.getElem?_cons_zero, List.getElem?_cons_succ] at r0 r1 r2 r3 r4
  have fr := fun o => y1.frozen o
  have kR : Fr (fun x => x = w.heap.size + 1) w2 (((((w2.setCell ⟨w.heap.size + 1, 0, none⟩ (.string p)).setCell ⟨w.heap.size + 1, 1, none⟩ (.int .i64 k)).setCell ⟨w.heap.size + 1, 2, none⟩ (.int .u64 v)).setCell ⟨w.heap.size + 1, 3, none⟩ (.int .u64 0)).setCell ⟨w.heap.size + 1, 4, none⟩ (.int .i64 (n : Int))) := ((((((Fr.refl (fun x => x = w.heap.size + 1) w2).setAt (w.heap.size + 1) _ rfl _).setAt (w.heap.size + 1) _ rfl _).setAt (w.heap.size + 1) _ rfl _).setAt (w.heap.size + 1) _ rfl _).setAt (w.heap.size + 1) _ rfl _)
  have yR := (((((y1.set_ 0 (.string p)).set_ 1 (.int .i64 k)).set_ 2 (.int .u64 v)).set_ 3 (.int .u64 0)).set_ 4 (.int .i64 (n : Int)))
  simp only [List.setIfInBounds_toArray, List.set_cons_zero, List.set_cons_succ] at yR
  have hwR := hw2.trans (kR.below (B := w.heap.size) hw2.size (fun k hk e => by omega))
  clear y1
  go_wp2_with fail
  generalize (((((w2.setCell ⟨w.heap.size + 1, 0, none⟩ (.string p)).setCell ⟨w.heap.size + 1, 1, none⟩ (.int .i64 k)).setCell ⟨w.heap.size + 1, 2, none⟩ (.int .u64 v)).setCell ⟨w.heap.size + 1, 3, none⟩ (.int .u64 0)).setCell ⟨w.heap.size + 1, 4, none⟩ (.int .i64 (n : Int))) = wR at *
  have s0 := yR.cell 0
  have s1 := yR.cell 1
  have s2 := yR.cell 2
  have s3 := yR.cell 3
  have s4 := yR.cell 4
  simp only [List.getElem?_toArray, List.getElem?_cons_zero, List.getElem?_cons_succ] at s0 s1 s2 s3 s4
  refine bodyPost_ret (v := rowV p k v n) (by simp [results, Try.results63, go_sem, s0, s1, s2, s3, s4]) rfl ?_
  exact ⟨rfl, hwR⟩


set_option maxRecDepth 100000 in
set_option maxHeartbeats 2000000 in
theorem refRows22_any (A : Option Addr) (c : Nat) (M : List EV) (s : Int) (a : List UInt8) (n : Int) (w : World) (h : EsR w A M) (ha : a.length ≤ 1048576) (hM : ∀ x ∈ M, x.p.size ≤ 1048576) :
    Calls Try.prog 23 #[.agg #[.int .u64 s, .slice A M.length c], .string ⟨⟨a⟩⟩, .int .i64 n] w fun e w' => RwOwn w' w.heap.size e (rowsGo a n (M.map EV.pl) []) ∧ Below w.heap.size w w' := by
  have hw1 : Below w.heap.size w (w.alloc (.cells #[.int .u64 s, .slice A M.length c] 33)) := (by repeat (first | exact Below.refl _ _ | refine Below.alloc ?_ (by simp) _ | refine Below.setCell ?_ (by simp) _ | refine Below.drew ?_))
  have x1 := Blk.new w 33 #[.int .u64 s, .slice A M.length c]
  have HE := Lib.hid (h.below hw1)
  have HMP := Lib.hid hM
  have hll := h.len
  obtain ⟨R, hR⟩ : ∃ R, R = rowsGo a n (M.map EV.pl) [] := ⟨_, rfl⟩
  rw [← hR]
  have HR := Lib.hid hR
  clear h hR hM
  go_enter Try.func23, Try.ntmps23
  go_wp2_with fail
  generalize w.alloc (.cells #[.int .u64 s, .slice A M.length c] 33) = w1 at *
  have HBK : Hid (∀ W, Below w1.heap.size w1 W → W.cell? ⟨w.heap.size, 0, none⟩ = some (.int .u64 s) ∧ W.cell? ⟨w.heap.size, 1, none⟩ = some (.slice A M.length c)) := Lib.hid (fun W hW => ⟨(x1.below hW).cell 0, (x1.below hW).cell 1⟩)
  go_loopw [8, 9] (fun ov iv wr => ∃ (i : Nat) (A' : Option Addr) (c' : Nat) (l : List (List UInt8 × EP)), i ≤ M.length ∧ iv = .int .i64 (i : Int) ∧ ov = .slice A' l.length c' ∧ Hid (R = rowsGo a n ((M.map EV.pl).drop i) l) ∧ l.length ≤ i ∧ OwRw wr w1.heap.size A' c' l ∧ Below w1.heap.size w1 wr) (fun _ iv _ => M.length - (intOf iv).toNat)
  case atStart => exact ⟨0, none, 0, [], Nat.zero_le _, rfl, rfl, by show _ = _; rw [HR.out]; rfl, Nat.le_refl _, World.ownsRow_nil _ _ _ _, Below.refl _ _⟩
  case round =>
    obtain ⟨i, A', c', l, hi, rfl, rfl, hg, hli, ho2, hb⟩ := hrel
    obtain ⟨p0, p1⟩ := HBK.out wr hb
    by_cases hlt : i < M.length
    · obtain ⟨b, off, hA, hbb, c0, c1, c2, c3⟩ := HE.out.at_ hlt
      have hg2 := hg.out
      rw [pl_drop M i hlt, rowsGo_cons] at hg2
      have hxp := HMP.out _ (List.getElem_mem hlt)
      obtain ⟨x, hx⟩ : ∃ x, x = M[i] := ⟨_, rfl⟩
      rw [← hx] at c0 c1 c2 c3 hg2 hxp
      have HX : Hid (∀ W, Below w1.heap.size w1 W → W.cell? ⟨b, off + i * 4, none⟩ = some (.string x.p) ∧ W.cell? ⟨b, off + i * 4 + 1, none⟩ = some (.int .u64 x.v) ∧ W.cell? ⟨b, off + i * 4 + 2, none⟩ = some (.int .i64 x.k) ∧ W.cell? ⟨b, off + i * 4 + 3, none⟩ = some (.slice x.x.A x.x.l.length x.x.c)) := Lib.hid (fun W hW => by
        rw [hW.cell hbb, hW.cell hbb, hW.cell hbb, hW.cell hbb]
        exact ⟨c0, c1, c2, c3⟩)
      subst hA
      have hw2 := hb
      clear c0 c1 c2 c3 hx hg
      obtain ⟨c0, _, _, _⟩ := HX.out _ hb
      by_cases hae : a = []
      · have he : (a == []) = true := by simpa using hae
        rw [if_neg (by unfold behB; rw [he]; simp)] at hg2
        clear hae
        by_cases hn : n ≤ (l.length : Int)
        · have hnd : decide (n ≤ (l.length : Int)) = true := decide_eq_true hn
          rw [if_pos hn] at hg2
          have HG2 := Lib.hid hg2
          clear hg2 hn
          skip
          go_wp2_with fail
          refine bodyPost_ret (v := .tuple #[.slice A' l.length c', .bool true]) (by simp [results, Try.results23, go_sem]) rfl ?_
          exact ⟨⟨A', c', l, true, rfl, HG2.out.symm, own_base ho2 (fun g hg => Nat.le_trans hw1.size (ho2.lt _ hg).1)⟩, hw1.trans (hw2.mono hw1.size)⟩
        · have hnd : decide (n ≤ (l.length : Int)) = false := decide_eq_false hn
          rw [if_neg hn] at hg2
          have HG2 := Lib.hid hg2
          clear hg2 hn
          skip
          obtain ⟨p0, p1⟩ := HBK.out _ hw2
          obtain ⟨c0, c1, c2, c3⟩ := HX.out _ hw2
          have HRW := Lib.hid (refRow22_any x.p x.v x.k x.x.A x.x.l.length x.x.c wr)
          go_wp2_with fail
          refine HRW.out.mono ?_
          rintro e w3 ⟨rfl, hb3⟩
          have hs3 := hw2.size
          unfold rowV
          replace ho2 := own_below ho2 hb3
          replace hw2 := hw2.trans (hb3.mono hw2.size)
          have hba : Below w1.heap.size w1 (w3.alloc (.cells #[.string x.p, .int .i64 x.k, .int .u64 x.v, .int .u64 0, .int .i64 (x.x.l.length : Int)] 52)) := hw2.alloc hw2.size _
          have oa := Lib.hid (own_below ho2 ((Below.refl _ w3).alloc (Nat.le_refl _) (.cells #[.string x.p, .int .i64 x.k, .int .u64 x.v, .int .u64 0, .int .i64 (x.x.l.length : Int)] 52)))
          have ra : Hid (Rd (w3.alloc (.cells #[.string x.p, .int .i64 x.k, .int .u64 x.v, .int .u64 0, .int .i64 (x.x.l.length : Int)] 52)) (fun _ => True) 5 (some ⟨w3.heap.size, 0, none⟩) 1 (rowC x.pl)) := (Rd.lit (w := w3) (t := 52) (size := 5) (n := 1) (xs := rowC x.pl) rfl rfl rfl).mono (fun _ _ _ => trivial)
          clear HRW c0 c1 c2 c3 ho2 hb3
          go_wp2_with (at_builtin; refine wpList_append_rw rfl (.tmp 35) (.tmp 42) (t := 47) rfl rfl rfl oa.out rfl ra.out (by omega) hba.size ?_; intro A5 c5 w5 ho5 hb5)
          have hb6 := hba.trans hb5
          have hlen5 : (l ++ [x.pl]).length = l.length + 1 := by simp
          go_roundw
          case rel => exact ⟨i + 1, A5, c5, l ++ [x.pl], hlt, by go_num, by rw [hlen5], HG2.out, by omega, ho5, hb6⟩
          case measure => simp [intOf]; omega
      · have he : (a == []) = false := by simpa using hae
        obtain ⟨cm, hcm⟩ : ∃ cm, cm = cmpT (tl x.p) a := ⟨_, rfl⟩
        have HCM := Lib.hid (fun W => refCompare_any x.p ⟨⟨a⟩⟩ (by omega) (by show a.length ≤ _; omega) W)
        rw [show cmpT (tl x.p) (tl ⟨⟨a⟩⟩) = cm from hcm.symm] at HCM
        by_cases hc : 0 < cm
        · rw [if_neg (by unfold behB; rw [he, show cmpT x.pl.1 a = cm from hcm.symm, decide_eq_true hc]; simp)] at hg2
          have hcd : decide (cm ≤ 0) = false := decide_eq_false (by omega)
          clear hcm hc hae
          by_cases hn : n ≤ (l.length : Int)
          · have hnd : decide (n ≤ (l.length : Int)) = true := decide_eq_true hn
            rw [if_pos hn] at hg2
            have HG2 := Lib.hid hg2
            clear hg2 hn
            go_wp2_with fail
            refine (HCM.out wr).mono ?_
            rintro e w2 ⟨rfl, hb2⟩
            replace hw2 := hb.trans (hb2.mono hb.size)
            replace ho2 := own_below ho2 hb2
            go_wp2_with fail
            refine bodyPost_ret (v := .tuple #[.slice A' l.length c', .bool true]) (by simp [results, Try.results23, go_sem]) rfl ?_
            exact ⟨⟨A', c', l, true, rfl, HG2.out.symm, own_base ho2 (fun g hg => Nat.le_trans hw1.size (ho2.lt _ hg).1)⟩, hw1.trans (hw2.mono hw1.size)⟩
          · have hnd : decide (n ≤ (l.length : Int)) = false := decide_eq_false hn
            rw [if_neg hn] at hg2
            have HG2 := Lib.hid hg2
            clear hg2 hn
            go_wp2_with fail
            refine (HCM.out wr).mono ?_
            rintro e w2 ⟨rfl, hb2⟩
            replace hw2 := hb.trans (hb2.mono hb.size)
            replace ho2 := own_below ho2 hb2
            obtain ⟨p0, p1⟩ := HBK.out _ hw2
            obtain ⟨c0, c1, c2, c3⟩ := HX.out _ hw2
            have HRW := Lib.hid (refRow22_any x.p x.v x.k x.x.A x.x.l.length x.x.c w2)
            go_wp2_with fail
            refine HRW.out.mono ?_
            rintro e w3 ⟨rfl, hb3⟩
            have hs3 := hw2.size
            unfold rowV
            replace ho2 := own_below ho2 hb3
            replace hw2 := hw2.trans (hb3.mono hw2.size)
            have hba : Below w1.heap.size w1 (w3.alloc (.cells #[.string x.p, .int .i64 x.k, .int .u64 x.v, .int .u64 0, .int .i64 (x.x.l.length : Int)] 52)) := hw2.alloc hw2.size _
            have oa := Lib.hid (own_below ho2 ((Below.refl _ w3).alloc (Nat.le_refl _) (.cells #[.string x.p, .int .i64 x.k, .int .u64 x.v, .int .u64 0, .int .i64 (x.x.l.length : Int)] 52)))
            have ra : Hid (Rd (w3.alloc (.cells #[.string x.p, .int .i64 x.k, .int .u64 x.v, .int .u64 0, .int .i64 (x.x.l.length : Int)] 52)) (fun _ => True) 5 (some ⟨w3.heap.size, 0, none⟩) 1 (rowC x.pl)) := (Rd.lit (w := w3) (t := 52) (size := 5) (n := 1) (xs := rowC x.pl) rfl rfl rfl).mono (fun _ _ _ => trivial)
            clear HRW c0 c1 c2 c3 ho2 hb3
            go_wp2_with (at_builtin; refine wpList_append_rw rfl (.tmp 35) (.tmp 42) (t := 47) rfl rfl rfl oa.out rfl ra.out (by omega) hba.size ?_; intro A5 c5 w5 ho5 hb5)
            have hb6 := hba.trans hb5
            have hlen5 : (l ++ [x.pl]).length = l.length + 1 := by simp
            go_roundw
            case rel => exact ⟨i + 1, A5, c5, l ++ [x.pl], hlt, by go_num, by rw [hlen5], HG2.out, by omega, ho5, hb6⟩
            case measure => simp [intOf]; omega
        · rw [if_pos (by unfold behB; rw [he, show cmpT x.pl.1 a = cm from hcm.symm, decide_eq_false hc]; rfl)] at hg2
          have hcd : decide (cm ≤ 0) = true := decide_eq_true (by omega)
          clear hcm hc hae
          have HG2 := Lib.hid hg2
          clear hg2
          go_wp2_with fail
          refine (HCM.out wr).mono ?_
          rintro e w2 ⟨rfl, hb2⟩
          replace hw2 := hb.trans (hb2.mono hb.size)
          replace ho2 := own_below ho2 hb2
          go_wp2_with fail
          go_roundw
          case rel => exact ⟨i + 1, A', c', l, hlt, by go_num, rfl, HG2.out, by omega, ho2, hw2⟩
          case measure => simp [intOf]; omega
    · have e : i = M.length := by omega
      subst e
      have HG2 : Hid ((l, false) = R) := Lib.hid (by rw [hg.out, List.drop_eq_nil_of_le (by rw [List.length_map]; exact Nat.le_refl _)]; rfl)
      clear hg
      go_wp2_with fail
      refine bodyPost_ret (v := .tuple #[.slice A' l.length c', .bool false]) (by simp [results, Try.results23, go_sem]) rfl ?_
      exact ⟨⟨A', c', l, false, rfl, HG2.out, own_base ho2 (fun g hg => Nat.le_trans hw1.size (ho2.lt _ hg).1)⟩, hw1.trans (hb.mono hw1.size)⟩

end Go.Proofs.Ytdnljmncdbcgeaa

/- Rows of texts in the paths' order, no text twice: one put in; the highest number told of each text. No program. -/
namespace Go.Proofs.Ytdnljmncdbcgeaa

def sortedS (l : List (List UInt8)) : Prop := l.Pairwise fun a b => cmpT a b < 0
theorem sortedS_keys {α : Type} {L : List (List UInt8 × α)} (h : SortR L) : sortedS (keysR L) := by
  unfold sortedS keysR
  rw [List.pairwise_map]
  exact h
theorem sorted_eq {l m : List (List UInt8)} (hl : sortedS l) (hm : sortedS m) (h : ∀ q, q ∈ l ↔ q ∈ m) : l = m := by
  have k : ∀ l : List (List UInt8), keysR (l.map fun q => (q, ())) = l := fun l => by simp [keysR, Function.comp_def]
  have e : (l.map fun q => (q, ())) = m.map fun q => (q, ()) := SortR.ext (List.pairwise_map.2 hl) (List.pairwise_map.2 hm) fun p => by
    have h1 := getR_isSome (L := l.map fun q => (q, ())) (p := p)
    have h2 := getR_isSome (L := m.map fun q => (q, ())) (p := p)
    rw [k] at h1 h2
    have h3 := h p
    rcases g1 : getR (l.map fun q => (q, ())) p with _ | ⟨⟩ <;> rcases g2 : getR (m.map fun q => (q, ())) p with _ | ⟨⟩
    · rfl
    · rw [g1] at h1; rw [g2] at h2; simp at h1 h2; exact absurd (h3.2 h2) h1
    · rw [g1] at h1; rw [g2] at h2; simp at h1 h2; exact absurd (h3.1 h1) h2
    · rfl
  rw [← k l, e, k]
/-- how many stand ahead of p -/
def atS (p : List UInt8) : List (List UInt8) → Nat
  | [] => 0
  | q :: l => if cmpT q p < 0 then atS p l + 1 else 0
def insS (p : List UInt8) (l : List (List UInt8)) : List (List UInt8) := if l[atS p l]? = some p then l else l.take (atS p l) ++ p :: l.drop (atS p l)
theorem atS_le (p : List UInt8) : ∀ l : List (List UInt8), atS p l ≤ l.length
  | [] => Nat.le_refl _
  | q :: l => by
    unfold atS
    have := atS_le p l
    split <;> simp <;> omega
/-- the place, told from the left -/
theorem atS_of {p : List UInt8} : ∀ {l : List (List UInt8)} {k : Nat}, k ≤ l.length → (∀ q ∈ l.take k, cmpT q p < 0) → (∀ h : k < l.length, ¬ cmpT l[k] p < 0) → atS p l = k
  | [], k, hk, _, _ => by simp at hk; simp [atS, hk]
  | q :: l, 0, _, _, h2 => by
    have h3 : ¬ cmpT q p < 0 := h2 (by simp)
    unfold atS
    rw [if_neg h3]
  | q :: l, k + 1, hk, h1, h2 => by
    have h3 : cmpT q p < 0 := h1 q (by simp)
    unfold atS
    rw [if_pos h3, atS_of (k := k) (by simpa using hk) (fun z hz => h1 z (by rw [List.take_succ_cons]; exact List.mem_cons_of_mem _ hz)) (fun h => h2 (by simp; omega))]
theorem ins_set {p : List UInt8} : ∀ {l : List (List UInt8)}, sortedS l → sortedS (insS p l) ∧ ∀ q, q ∈ insS p l ↔ q = p ∨ q ∈ l
  | [], _ => by simp [insS, atS, sortedS]
  | x :: l, h => by
    unfold sortedS at h
    rw [List.pairwise_cons] at h
    obtain ⟨ih1, ih2⟩ := ins_set (p := p) (l := l) h.2
    by_cases hx : cmpT x p < 0
    · have e : insS p (x :: l) = x :: insS p l := by
        have ha : atS p (x :: l) = atS p l + 1 := by rw [atS, if_pos hx]
        unfold insS
        rw [ha, List.getElem?_cons_succ, List.take_succ_cons, List.drop_succ_cons]
        split <;> rfl
      rw [e]
      refine ⟨?_, fun q => ?_⟩
      · unfold sortedS
        rw [List.pairwise_cons]
        refine ⟨fun y hy => ?_, ih1⟩
        rcases (ih2 y).1 hy with rfl | hy
        · exact hx
        · exact h.1 y hy
      · simp only [List.mem_cons, ih2]
        constructor
        · rintro (h | h | h)
          · exact .inr (.inl h)
          · exact .inl h
          · exact .inr (.inr h)
        · rintro (h | h | h)
          · exact .inr (.inl h)
          · exact .inl h
          · exact .inr (.inr h)
    · have e : insS p (x :: l) = if x = p then x :: l else p :: x :: l := by
        have ha : atS p (x :: l) = 0 := by rw [atS, if_neg hx]
        unfold insS
        rw [ha]
        simp
      rw [e]
      by_cases hxp : x = p
      · rw [if_pos hxp]
        subst hxp
        refine ⟨List.pairwise_cons.2 h, fun q => ?_⟩
        simp
      · rw [if_neg hxp]
        refine ⟨?_, fun q => by simp⟩
        have h0 : cmpT p x < 0 := by
          have h1 := ordT.flip x p
          have h2 : cmpT x p ≠ 0 := fun e => hxp ((cmpT_eq x p).1 e)
          omega
        unfold sortedS
        rw [List.pairwise_cons]
        refine ⟨fun y hy => ?_, List.pairwise_cons.2 h⟩
        rcases List.mem_cons.1 hy with rfl | hy
        · exact h0
        · exact ordT.trans _ _ _ h0 (h.1 y hy)
/-- the highest number told of each text -/
def bestV (l : List (List UInt8 × Int)) (p : List UInt8) : Int := l.foldl (fun v r => if r.1 = p ∧ v < r.2 then r.2 else v) 0
def theirsS (l : List (List UInt8 × Int)) : List (List UInt8 × Int) := l.foldl (fun T r => putR T r.1 (max ((getR T r.1).getD 0) r.2)) []
theorem bestV_snoc (l : List (List UInt8 × Int)) (r : List UInt8 × Int) (p : List UInt8) : bestV (l ++ [r]) p = if r.1 = p ∧ bestV l p < r.2 then r.2 else bestV l p := by unfold bestV; rw [List.foldl_append]; rfl
theorem theirsS_snoc (l : List (List UInt8 × Int)) (r : List UInt8 × Int) : theirsS (l ++ [r]) = putR (theirsS l) r.1 (max ((getR (theirsS l) r.1).getD 0) r.2) := by simp [theirsS, List.foldl_append]
theorem snoc_ind {α : Type} {motive : List α → Prop} (h0 : motive []) (h1 : ∀ l x, motive l → motive (l ++ [x])) (l : List α) : motive l := by
  have : ∀ n, ∀ l : List α, l.length = n → motive l := by
    intro n
    induction n with
    | zero => intro l hl; rw [List.eq_nil_of_length_eq_zero hl]; exact h0
    | succ n ih =>
      intro l hl
      have hne : l ≠ [] := by intro e; rw [e] at hl; simp at hl
      rw [← List.dropLast_concat_getLast hne]
      exact h1 _ _ (ih _ (by rw [List.length_dropLast]; omega))
  exact this _ l rfl
theorem theirs_sort (l : List (List UInt8 × Int)) : SortR (theirsS l) := by
  induction l using snoc_ind with
  | h0 => exact sortR_nil
  | h1 l r ih => rw [theirsS_snoc]; exact ih.put _ _
theorem theirs_get (l : List (List UInt8 × Int)) (p : List UInt8) : ((getR (theirsS l) p).getD 0 = bestV l p) ∧ ((getR (theirsS l) p).isSome = true ↔ p ∈ l.map (·.1)) := by
  induction l using snoc_ind with
  | h0 => simp [theirsS, bestV, getR_nil]
  | h1 l r ih =>
    obtain ⟨ih1, ih2⟩ := ih
    rw [theirsS_snoc, bestV_snoc, getR_put]
    by_cases h : p = r.1
    · subst h
      rw [if_pos rfl]
      refine ⟨?_, by simp⟩
      rw [Option.getD_some, ih1]
      split
      · rename_i h1; omega
      · rename_i h1
        have : ¬ bestV l r.1 < r.2 := fun e => h1 ⟨rfl, e⟩
        omega
    · rw [if_neg h, if_neg (fun e => h e.1.symm)]
      refine ⟨ih1, ?_⟩
      rw [ih2]
      simp [h]
theorem theirs_mem (l : List (List UInt8 × Int)) (p : List UInt8) : p ∈ keysR (theirsS l) ↔ p ∈ l.map (·.1) := by
  rw [← getR_isSome]
  exact (theirs_get l p).2
theorem theirs_len (l : List (List UInt8 × Int)) : (theirsS l).length ≤ l.length := by
  induction l using snoc_ind with
  | h0 => exact Nat.le_refl _
  | h1 l r ih =>
    rw [theirsS_snoc]
    unfold putR
    rw [ins_len, List.length_append]
    have := without_len_le (theirsS l) r.1
    simp
    omega
theorem bestV_bd (l : List (List UInt8 × Int)) (p : List UInt8) (h : ∀ r ∈ l, 0 ≤ r.2 ∧ r.2 < 18446744073709551616) : 0 ≤ bestV l p ∧ bestV l p < 18446744073709551616 := by
  induction l using snoc_ind with
  | h0 => simp [bestV]
  | h1 l r ih =>
    rw [bestV_snoc]
    split
    · exact h r (by simp)
    · exact ih (fun r hr => h r (by simp [hr]))
theorem sortedS.filter {l : List (List UInt8)} (h : sortedS l) (f : List UInt8 → Bool) : sortedS (l.filter f) := List.Pairwise.filter _ h
end Go.Proofs.Ytdnljmncdbcgeaa

/- BookFull is true for every input: where there are as many entries as may be, an entry of nothing goes for another one, that of the least version; if there is none the book is full. No condition beyond the row's own. -/
namespace Go.Proofs.Ytdnljmncdbcgeaa
open Go.RowKit Go.Maps

theorem EsOwn.esr {w : World} {base : Nat} {A : Option Addr} {c : Nat} {M : List EV} (h : EsOwn w base A c M) (hl : M.length ≤ 1000000) : EsR w A M :=
  h.row.esr (fun x hx => by
    obtain ⟨A', c', e, h2, h3, _⟩ := (h.byt x hx).form
    injection e with e1 e2 e3
    subst e1 e3
    exact ⟨(h.byt x hx).rd.mono (fun _ _ _ => trivial), h2, h3⟩) hl
theorem ent_one {w : World} {x : EV} (h : x.ok w (fun b => b < w.heap.size)) : Ents (w.alloc (.cells #[.string x.p, .int .u64 x.v, .int .i64 x.k, .slice x.x.A x.x.l.length x.x.c] 28)) (fun b => b < w.heap.size + 1) (some ⟨w.heap.size, 0, none⟩) [x] := by
  refine ⟨(Rd.lit (w := w) (t := 28) (size := 4) (n := 1) (xs := [x].flatMap EV.cells) rfl rfl rfl).mono (fun b hb hz => ?_), ?_, by simp⟩
  · simpa using hb
  · intro y hy
    rw [List.mem_singleton.1 hy]
    exact (h.mono (fun b hb hz => by omega)).below ((Below.refl _ _).alloc (Nat.le_refl _) _)

set_option maxRecDepth 100000 in
set_option maxHeartbeats 2000000 in
theorem bookFull_any (A : Option Addr) (c : Nat) (l : List EV) (x : EV) (w : World) (h : Ents w (fun b => b < w.heap.size) A l) (hx : x.ok w (fun b => b < w.heap.size)) :
    Calls Try.prog 3 #[.slice A l.length c, .agg #[.string x.p, .int .u64 x.v, .int .i64 x.k, .slice x.x.A x.x.l.length x.x.c]] w fun e w' => e = .returned (.bool true) ∧ Below w.heap.size w w' := by
  have hw0 : Below w.heap.size w (w.alloc (.cells #[.string x.p, .int .u64 x.v, .int .i64 x.k, .slice x.x.A x.x.l.length x.x.c] 28)) := (by repeat (first | exact Below.refl _ _ | refine Below.alloc ?_ (by simp) _ | refine Below.setCell ?_ (by simp) _ | refine Below.drew ?_))
  have x0 := Blk.new w 28 #[.string x.p, .int .u64 x.v, .int .i64 x.k, .slice x.x.A x.x.l.length x.x.c]
  have HA := Lib.hid (h.below hw0)
  have HXO := Lib.hid ((hx.below hw0).mono (Z' := fun b => b < w.heap.size) (fun b _ hz => hz))
  have hll := h.len
  clear h hx
  rcases hli : lightE l with _ | _
  · have HL := Lib.hid (lightE_any A c l _ _ HA.out)
    rw [hli] at HL
    go_enter Try.func3, Try.ntmps3
    go_wp2_with fail
    refine HL.out.mono ?_
    rintro e w1 ⟨rfl, hb1⟩
    have hw1 := hw0.trans (hb1.mono hw0.size)
    clear x0 HA HXO HL hb1
    go_wp2_with fail
    refine (lives22_any _).mono ?_
    rintro e w9 ⟨rfl, hb9⟩
    go_wp2_with fail
    go_ret
    exact ⟨rfl, hw1.trans (hb9.mono hw1.size)⟩
  · have HL := Lib.hid (lightE_any A c l _ _ HA.out)
    rw [hli] at HL
    have hla := lightE_all hli
    go_enter Try.func3, Try.ntmps3
    go_wp2_with fail
    refine HL.out.mono ?_
    rintro e w1 ⟨rfl, hb1⟩
    have hw1 := hw0.trans (hb1.mono hw0.size)
    have x1 := x0.below hb1
    have HA1 := Lib.hid (HA.out.below hb1)
    have HX1 := Lib.hid ((HXO.out.below hb1).mono (Z' := fun b => b < w1.heap.size) (fun b _ hz => Nat.lt_of_lt_of_le hz hw1.size))
    have HL1 := Lib.hid (lightE_any _ 1 [x] _ _ (ent_one HX1.out))
    have hba : Below w1.heap.size w1 (w1.alloc (.cells #[.string x.p, .int .u64 x.v, .int .i64 x.k, .slice x.x.A x.x.l.length x.x.c] 28)) := (Below.refl _ _).alloc (Nat.le_refl _) _
    have hw1a := hw1.trans (hba.mono hw1.size)
    have x1a := x1.below hba
    have HA1a := Lib.hid (HA1.out.below hba)
    have HX1a := Lib.hid (HX1.out.below hba)
    have q0 := x1.cell 0
    have q1 := x1.cell 1
    have q2 := x1.cell 2
    have q3 := x1.cell 3
    simp only [List.getElem?_toArray, List.getElem?_cons_zero, List.getElem?_cons_succ] at q0 q1 q2 q3
    clear x0 HA HXO HL hb1 hba
    rcases hlx : lightE [x] with _ | _
    · rw [hlx] at HL1
      go_wp2_with fail
      refine HL1.out.mono ?_
      rintro e w2 ⟨rfl, hb2⟩
      have hw2 := hw1a.trans (hb2.mono hw1a.size)
      clear q0 q1 q2 q3 x1 x1a HA1 HX1 HA1a HX1a HL1
      go_wp2_with fail
      refine (lives22_any _).mono ?_
      rintro e w9 ⟨rfl, hb9⟩
      go_wp2_with fail
      go_ret
      exact ⟨rfl, hw2.trans (hb9.mono hw2.size)⟩
    · rw [hlx] at HL1
      obtain ⟨hxp, hxd⟩ := (lightE_all hlx).2 x (by simp)
      by_cases hl270 : l.length ≤ 270
      · have hd : decide ((270 : Int) < (l.length : Int)) = false := decide_eq_false (by omega)
        go_wp2_with fail
        refine HL1.out.mono ?_
        rintro e w2 ⟨rfl, hb2⟩
        have hw2 := hw1a.trans (hb2.mono hw1a.size)
        have x2 := x1a.below hb2
        have HA2 := Lib.hid (HA1a.out.below hb2)
        have HX2 := Lib.hid (HX1a.out.below hb2)
        have HPL := Lib.hid (plays22_any A c l _ w2 HA2.out hla)
        clear q0 q1 q2 q3 x1 x1a HA1 HX1 HA1a HX1a HL1 hb2
        go_wp2_with fail
        refine HPL.out.mono ?_
        rintro e w3 ⟨bb, mo, L, B, d, M, rfl, hP, hbb, hmo, hb3⟩
        have hw3 := hw2.trans (hb3.mono hw2.size)
        have x3 := x2.below hb3
        have HX3 := Lib.hid (HX2.out.below hb3)
        have hba : Below w3.heap.size w3 (w3.alloc (.cells #[.int .u64 0, .slice B M.length d] 33)) := (Below.refl _ _).alloc (Nat.le_refl _) _
        have y4 := Blk.new w3 33 #[.int .u64 0, .slice B M.length d]
        have x4 := x3.below hba
        have hw4 := hw3.trans (hba.mono hw3.size)
        have HX4 := Lib.hid (HX3.out.below hba)
        have HP4 := Lib.hid (hP.below hba)
        clear HPL hP hb3 x2 x3 HX2 HX3 HA2
        go_upto_region 4 with (fail)
        generalize w3.alloc (.cells #[.int .u64 0, .slice B M.length d] 33) = w4 at *
        have p0 := y4.cell 0
        have p1 := y4.cell 1
        simp only [List.getElem?_toArray, List.getElem?_cons_zero, List.getElem?_cons_succ] at p0 p1
        have q0 := x4.cell 0
        have q1 := x4.cell 1
        have q2 := x4.cell 2
        have q3 := x4.cell 3
        simp only [List.getElem?_toArray, List.getElem?_cons_zero, List.getElem?_cons_succ] at q0 q1 q2 q3
        generalize hT : playB [] (l.map EV.pl) = T at *
        have HE := Lib.hid (refPut22_any B d M 0 x w4 HP4.out.es (HX4.out.x.mono (fun _ _ _ => trivial)) (by omega) HX4.out.v (by omega) (by rw [HP4.out.same.out]; exact HP4.out.ok))
        rw [HP4.out.same.out] at HE
        have hvx := HX4.out.v
        have HBP := Lib.hid (fun w (hB : BookAt w bb mo L 0) (hy : By w (fun _ => True) x.x.A x.x.l) => bookPut_any bb mo L 0 (tl x.p) x.v x.k x.x.A x.x.c x.x.l _ w hB hy (by rw [tl_len]; omega) hvx (by omega))
        rw [HP4.out.plain.out] at HBP
        obtain ⟨R, hR⟩ : ∃ R, R = putP T (tl x.p) x.ep := ⟨_, rfl⟩
        rw [show putP T (tl x.p) (x.v, x.k, x.x.l) = R from hR.symm] at HBP
        rw [← hR] at HE
        obtain ⟨T', E⟩ := R
        dsimp only at HE HBP
        clear hba hR
        go_wp2_with fail
        refine HE.out.mono ?_
        rintro e w6 ⟨⟨B4, d4, M4, rfl, hM4, hE4⟩, hb6⟩
        have hw6 := hw4.trans (hb6.mono hw4.size)
        have hba : Below w6.heap.size w6 (w6.alloc (.cells #[.int .u64 0, .slice B4 M4.length d4] 33)) := (Below.refl _ _).alloc (Nat.le_refl _) _
        have y8 := Blk.new w6 33 #[.int .u64 0, .slice B4 M4.length d4]
        have x7 := (x4.below hb6).below hba
        have hw8 := hw6.trans (hba.mono hw6.size)
        have HB8 := Lib.hid ((HP4.out.book.below hb6).below hba)
        have HX8 := Lib.hid (((HX4.out.x.below hb6).below hba).1.mono (fun _ _ _ => trivial))
        have HM4 := Lib.hid hM4
        have HE8 := Lib.hid (hE4.below hba)
        clear hM4 hE4 hb6 HE HX4 HP4 p0 p1 q0 q1 q2 q3 y4 x4
        go_upto_region 7 with (fail)
        generalize w6.alloc (.cells #[.int .u64 0, .slice B4 M4.length d4] 33) = w8 at *
        clear hba
        have n1 := HB8.out.notB x7 (by decide)
        have n2 := HB8.out.notB y8 (by decide)
        refine wp_region_p [(0, true), (1, true), (3, true), (2, false), (4, true), (5, true), (6, true), (8, true), (9, true), (7, false), (10, false), (11, true), (12, true), (13, true), (14, false), (15, true), (16, true), (17, true), (18, false), (19, true)] (fun W => Fr (fun g => g = bb ∨ mo = some g) w8 W) (by kernel_rfl) (by kernel_rfl) ?_
        simp only [List.map_cons, List.map_nil, List.filterMap_cons, List.filterMap_nil, List.getElem?_cons_zero, List.getElem?_cons_succ, List.length_cons, List.length_nil, Nat.zero_add, Nat.reduceAdd, List.drop_succ_cons, List.drop_zero]
        refine mx_move _ (by kernel_rfl) rfl ⟨_, (by ((try simp [go_sem]); (try rfl); done)), _, (by (simp only [Act.put, List.setIfInBounds_toArray, List.set_cons_zero, List.set_cons_succ]; rfl)), ?_⟩
        refine mx_val (by kernel_rfl) ⟨_, (by (intro w' hC; (have q0 := (x7.fr hC n1).cell 0; have q1 := (x7.fr hC n1).cell 1; have q2 := (x7.fr hC n1).cell 2; have q3 := (x7.fr hC n1).cell 3; simp only [List.getElem?_toArray, List.getElem?_cons_zero, List.getElem?_cons_succ] at q0 q1 q2 q3); clear hC; (try go_simp); (try with_reducible rfl); done)), _, (by (simp only [Act.put, List.setIfInBounds_toArray, List.set_cons_zero, List.set_cons_succ]; rfl)), ?_⟩
        refine mx_move _ (by kernel_rfl) rfl ⟨_, (by ((try simp [go_sem]); (try rfl); done)), _, (by (simp only [Act.put, List.setIfInBounds_toArray, List.set_cons_zero, List.set_cons_succ]; rfl)), ?_⟩
        refine mx_call ((Fr.refl _ _).drew) (by kernel_rfl) ?_ (HBP.out _ (HB8.out.below (Below.refl _ _).drew) (HX8.out.drew)) ?_
        · (go_simp; done)
        rintro e wa ⟨rfl, hto⟩
        obtain ⟨⟨mo', L', hBa, hLa, hmoa⟩, hfra⟩ := hto
        have hca : Fr (fun g => g = bb ∨ mo = some g) w8 wa := ((Fr.refl (fun g => g = bb ∨ mo = some g) w8).drew).trans hfra (fun _ _ h => h)
        have HEa := Lib.hid ((HE8.out.below (Below.refl _ _).drew).bookTo (HB8.out.below (Below.refl _ _).drew) hfra)
        have HBa := Lib.hid hBa
        have HEN := Lib.hid (bookEntries_any bb mo' L' 0 wa hBa)
        refine ⟨_, rfl, _, (by (simp only [Act.put, List.setIfInBounds_toArray, List.set_cons_zero, List.set_cons_succ]; rfl)), ?_⟩
        refine mx_val (by kernel_rfl) ⟨_, (by (intro w' hC; clear hC; (try go_simp); (try with_reducible rfl); done)), _, (by (simp only [Act.put, List.setIfInBounds_toArray, List.set_cons_zero, List.set_cons_succ]; rfl)), ?_⟩
        refine mx_move _ (by kernel_rfl) rfl ⟨_, (by ((try simp [go_sem]); (try rfl); done)), _, (by (simp only [Act.put, List.setIfInBounds_toArray, List.set_cons_zero, List.set_cons_succ]; rfl)), ?_⟩
        refine mx_move _ (by kernel_rfl) rfl ⟨_, (by ((try simp [go_sem]); (try rfl); done)), _, (by (simp only [Act.put, List.setIfInBounds_toArray, List.set_cons_zero, List.set_cons_succ]; rfl)), ?_⟩
        refine mx_val (by kernel_rfl) ⟨_, (by (intro w' hC; clear hC; (try go_simp); (try with_reducible rfl); done)), _, (by (simp only [Act.put, List.setIfInBounds_toArray, List.set_cons_zero, List.set_cons_succ]; rfl)), ?_⟩
        refine mx_val (by kernel_rfl) ⟨_, (by (intro w' hC; (have q := (y8.fr hC n2).cell 1; simp only [List.getElem?_toArray, List.getElem?_cons_zero, List.getElem?_cons_succ] at q); clear hC; (try go_simp); (try with_reducible rfl); done)), _, (by (simp only [Act.put, List.setIfInBounds_toArray, List.set_cons_zero, List.set_cons_succ]; rfl)), ?_⟩
        refine mx_call (hca) (by kernel_rfl) ?_ (HEN.out) ?_
        · (go_simp; done)
        rintro e wb ⟨A5, c5, M5, rfl, hM5, hO5, hb5⟩
        have hcb : Fr (fun g => g = bb ∨ mo = some g) w8 wb := hca.then_below hb5
        have hlb := hBa.len
        have hM5l : M5.length ≤ 256 := by
          have := congrArg List.length (hM5.out.trans hLa.out)
          have h2 := congrArg List.length hLa.out
          rw [List.length_map] at this
          rw [plainB_len] at h2
          omega
        have HSM := Lib.hid (refSame22_any A5 B4 c5 d4 M5 M4 wb (hO5.esr (by omega)) (HEa.out.below hb5))
        rw [hM5.out, hLa.out, HM4.out.out, show ∀ (z : List (List UInt8 × EP)), decide (z = z) = true from fun z => by simp] at HSM
        have HBb := Lib.hid (hBa.below hb5)
        refine ⟨_, rfl, _, (by (simp only [Act.put, List.setIfInBounds_toArray, List.set_cons_zero, List.set_cons_succ]; rfl)), ?_⟩
        refine mx_call (hcb) (by kernel_rfl) ?_ (HSM.out) ?_
        · (go_simp; done)
        rintro e wc ⟨rfl, hb6⟩
        have hcc : Fr (fun g => g = bb ∨ mo = some g) w8 wc := hcb.then_below hb6
        have HBc := Lib.hid (HBb.out.below hb6)
        have hdl : decide ((L'.length : Int) ≤ 256) = true := decide_eq_true (by omega)
        clear hBa hM5 hO5 hLa HEN HEa
        refine ⟨_, rfl, _, (by (simp only [Act.put, List.setIfInBounds_toArray, List.set_cons_zero, List.set_cons_succ]; rfl)), ?_⟩
        refine mx_val (by kernel_rfl) ⟨_, (by (intro w' hC; clear hC; (try go_simp); (try with_reducible rfl); done)), _, (by (simp only [Act.put, List.setIfInBounds_toArray, List.set_cons_zero, List.set_cons_succ]; rfl)), ?_⟩
        refine mx_move _ (by kernel_rfl) rfl ⟨_, (by ((try simp [go_sem]); (try rfl); done)), _, (by (simp only [Act.put, List.setIfInBounds_toArray, List.set_cons_zero, List.set_cons_succ]; rfl)), ?_⟩
        refine mx_move _ (by kernel_rfl) rfl ⟨_, (by ((try simp [go_sem]); (try rfl); done)), _, (by (simp only [Act.put, List.setIfInBounds_toArray, List.set_cons_zero, List.set_cons_succ]; rfl)), ?_⟩
        refine mx_call (hcc) (by kernel_rfl) ?_ (bookLen_any bb mo' L' 0 wc HBc.out) ?_
        · (go_simp; done)
        rintro e wd ⟨rfl, rfl⟩
        refine ⟨_, rfl, _, (by (simp only [Act.put, List.setIfInBounds_toArray, List.set_cons_zero, List.set_cons_succ]; rfl)), ?_⟩
        refine mx_val (by kernel_rfl) ⟨_, (by (intro w' hC; clear hC; (try go_simp); (try with_reducible rfl); done)), _, (by (simp only [Act.put, List.setIfInBounds_toArray, List.set_cons_zero, List.set_cons_succ]; rfl)), ?_⟩
        refine mx_val (by kernel_rfl) ⟨_, (by (intro w' hC; clear hC; (try go_simp); (try with_reducible rfl); done)), _, (by (simp only [Act.put, List.setIfInBounds_toArray, List.set_cons_zero, List.set_cons_succ]; rfl)), ?_⟩
        refine mx_move _ (by kernel_rfl) rfl ⟨_, (by ((try simp [go_sem]); (try rfl); done)), _, (by (simp only [Act.put, List.setIfInBounds_toArray, List.set_cons_zero, List.set_cons_succ]; rfl)), ?_⟩
        refine mx_call (hcc) (by kernel_rfl) ?_ (lives22_any wc) ?_
        · (go_simp; done)
        rintro e we ⟨rfl, hb7⟩
        have hce : Fr (fun g => g = bb ∨ mo = some g) w8 we := hcc.then_below hb7
        refine ⟨_, rfl, _, (by (simp only [Act.put, List.setIfInBounds_toArray, List.set_cons_zero, List.set_cons_succ]; rfl)), ?_⟩
        refine mx_val (by kernel_rfl) ⟨_, (by (intro w' hC; clear hC; (try go_simp); (try with_reducible rfl); done)), _, (by (simp only [Act.put, List.setIfInBounds_toArray, List.set_cons_zero, List.set_cons_succ]; rfl)), ?_⟩
        refine mx_end hce ?_
        go_wp2_with fail
        go_ret
        refine ⟨rfl, hw8.trans (hce.below (B := w.heap.size) hw8.size (fun k hk e => ?_))⟩
        have h2 := hw2.size
        rcases e with e | e
        · omega
        · have := hmo _ e; omega
      · have hd : decide ((270 : Int) < (l.length : Int)) = true := decide_eq_true (by omega)
        go_wp2_with fail
        refine HL1.out.mono ?_
        rintro e w2 ⟨rfl, hb2⟩
        have hw2 := hw1a.trans (hb2.mono hw1a.size)
        clear q0 q1 q2 q3 x1 x1a HA1 HX1 HA1a HX1a HL1
        go_wp2_with fail
        refine (lives22_any _).mono ?_
        rintro e w9 ⟨rfl, hb9⟩
        go_wp2_with fail
        go_ret
        exact ⟨rfl, hw2.trans (hb9.mono hw2.size)⟩

end Go.Proofs.Ytdnljmncdbcgeaa

/- book: Older; tenderref22: best. -/
namespace Go.Proofs.Ytdnljmncdbcgeaa
open Go.RowKit Go.Maps

/-- a row told -/
structure RV where
  p : ByteArray
  k : Int
  v : Int
  s : Int
  z : Int
def RV.cells (o : RV) : List Value := [.string o.p, .int .i64 o.k, .int .u64 o.v, .int .u64 o.s, .int .i64 o.z]
def RV.pv (o : RV) : List UInt8 × Int := (tl o.p, o.v)
theorem rv_len (x : RV) : x.cells.length = 5 := rfl
/-- rows in a slice, to be read -/
structure RwR (w : World) (A : Option Addr) (l : List RV) : Prop where
  rd : Rd w (fun _ => True) 5 A l.length (l.flatMap RV.cells)
  ok : ∀ x ∈ l, x.p.size ≤ 1048576 ∧ 0 ≤ x.v ∧ x.v < 18446744073709551616
  len : l.length ≤ 1000000
theorem RwR.below {w w' : World} {A : Option Addr} {l : List RV} (h : RwR w A l) (k : Below w.heap.size w w') : RwR w' A l := ⟨h.rd.below k, h.ok, h.len⟩
theorem RwR.at_ {w : World} {A : Option Addr} {l : List RV} {i : Nat} (h : RwR w A l) (hi : i < l.length) :
    ∃ b off, A = some ⟨b, off, none⟩ ∧ b < w.heap.size ∧ w.cell? ⟨b, off + i * 5, none⟩ = some (.string l[i].p) ∧ w.cell? ⟨b, off + i * 5 + 1, none⟩ = some (.int .i64 l[i].k) ∧ w.cell? ⟨b, off + i * 5 + 2, none⟩ = some (.int .u64 l[i].v) ∧ w.cell? ⟨b, off + i * 5 + 3, none⟩ = some (.int .u64 l[i].s) ∧ w.cell? ⟨b, off + i * 5 + 4, none⟩ = some (.int .i64 l[i].z) := by
  obtain ⟨b, off, hA, _, hb, hc⟩ := h.rd.2 (by omega)
  have hg : ∀ j, j < 5 → (l.flatMap RV.cells)[i * 5 + j]? = (RV.cells l[i])[j]? := fun j hj => flat_get (k := 5) rv_len l i j hi hj
  refine ⟨b, off, hA, hb, hc _ _ (hg 0 (by omega)), ?_, ?_, ?_, ?_⟩
  · rw [Nat.add_assoc]; exact hc _ _ (hg 1 (by omega))
  · rw [Nat.add_assoc]; exact hc _ _ (hg 2 (by omega))
  · rw [Nat.add_assoc]; exact hc _ _ (hg 3 (by omega))
  · rw [Nat.add_assoc]; exact hc _ _ (hg 4 (by omega))
theorem pv_snoc (l : List RV) (i : Nat) (hi : i < l.length) : (l.take (i + 1)).map RV.pv = (l.take i).map RV.pv ++ [l[i].pv] := by
  rw [List.take_succ_eq_append_getElem hi, List.map_append]
  rfl
def verP (T : List (List UInt8 × EP)) (p : List UInt8) : Int := ((getR T p).map (·.1)).getD 0
def fetchS (T : List (List UInt8 × EP)) (R : List (List UInt8 × Int)) : List (List UInt8) := (keysR (theirsS R)).filter fun p => decide (verP T p < bestV R p)
def giveS (T : List (List UInt8 × EP)) (R : List (List UInt8 × Int)) : List (List UInt8) := (keysR T).filter fun p => decide (bestV R p < verP T p)
def mapI (T : List (List UInt8 × Int)) : List (List UInt8 × Value) := T.map fun x => (x.1, Value.int .u64 x.2)
theorem mapI_put (T : List (List UInt8 × Int)) (p : List UInt8) (v : Int) : mapI (putR T p v) = putR (mapI T) p (.int .u64 v) := (put_map (fun v => Value.int .u64 v) T p v).symm
theorem keys_mapI (T : List (List UInt8 × Int)) : keysR (mapI T) = keysR T := keys_map (fun v => Value.int .u64 v) T
theorem look_mapI {w : World} {mb : Nat} {T : List (List UInt8 × Int)} (h : MapAt w Try.prog 9 mb (mapI T)) (p : List UInt8) (hp : p.length ≤ maxLen) :
    (Instr.lookup 127 (.map (some mb)) (.string ⟨⟨p⟩⟩) false).run Try.prog w = .ok (.int .u64 ((getR T p).getD 0)) w := by
  rw [h.look Try.underlying9 (t := 127) (e := 23) Try.underlying127 (z := .int .u64 0) (by kernel_rfl) p hp]
  unfold mapI
  rw [getR_map (fun v => Value.int .u64 v)]
  rcases getR T p with _ | v <;> rfl

set_option maxRecDepth 100000 in
set_option maxHeartbeats 1000000 in
theorem refBest_any (A : Option Addr) (c : Nat) (l : List RV) (p : ByteArray) (w : World) (h : RwR w A l) :
    Calls Try.prog 73 #[.slice A l.length c, .string p] w fun e w' => e = .returned (.int .u64 (bestV (l.map RV.pv) (tl p))) ∧ Below w.heap.size w w' := by
  have HR := Lib.hid h
  have hll := h.len
  obtain ⟨R, hR⟩ : ∃ R, R = bestV (l.map RV.pv) (tl p) := ⟨_, rfl⟩
  rw [← hR]
  have HRR := Lib.hid hR
  clear h hR
  go_enter Try.func73, Try.ntmps73
  go_wp2_with fail
  go_loopw [5, 6] (fun vv iv wr => ∃ (i : Nat) (v : Int), i ≤ l.length ∧ iv = .int .i64 (i : Int) ∧ vv = .int .u64 v ∧ Hid (v = bestV ((l.take i).map RV.pv) (tl p)) ∧ wr = w) (fun _ iv _ => l.length - (intOf iv).toNat)
  case atStart => exact ⟨0, 0, Nat.zero_le _, rfl, rfl, rfl, rfl⟩
  case round =>
    obtain ⟨i, v, hi, rfl, rfl, hv, rfl⟩ := hrel
    by_cases hlt : i < l.length
    · obtain ⟨b, off, hA, hbb, c0, c1, c2, c3, c4⟩ := HR.out.at_ hlt
      have hs := pv_snoc l i hlt
      obtain ⟨x, hx⟩ : ∃ x, x = l[i] := ⟨_, rfl⟩
      rw [← hx] at c0 c1 c2 c3 c4 hs
      have hn : bestV ((l.take (i + 1)).map RV.pv) (tl p) = if tl x.p = tl p ∧ v < x.v then x.v else v := by
        rw [hs, bestV_snoc, ← hv.out]
        rfl
      subst hA
      by_cases he : x.p = p
      · have heq := eq_yes he
        by_cases hlv : v < x.v
        · have hd : decide (v < x.v) = true := decide_eq_true hlv
          rw [if_pos ⟨by rw [he], hlv⟩] at hn
          have HN := Lib.hid hn.symm
          clear hn hs hx hv he
          go_wp2_with fail
          go_roundw
          case rel => exact ⟨i + 1, x.v, hlt, by go_num, rfl, HN.out, trivial⟩
          case measure => simp [intOf]; omega
        · have hd : decide (v < x.v) = false := decide_eq_false hlv
          rw [if_neg (fun e => hlv e.2)] at hn
          have HN := Lib.hid hn.symm
          clear hn hs hx hv he
          go_wp2_with fail
          go_roundw
          case rel => exact ⟨i + 1, v, hlt, by go_num, rfl, HN.out, trivial⟩
          case measure => simp [intOf]; omega
      · have heq := eq_no he
        rw [if_neg (fun e => he (tl_inj e.1))] at hn
        have HN := Lib.hid hn.symm
        clear hn hs hx hv he
        go_wp2_with fail
        go_roundw
        case rel => exact ⟨i + 1, v, hlt, by go_num, rfl, HN.out, trivial⟩
        case measure => simp [intOf]; omega
    · have e : i = l.length := by omega
      subst e
      have HN : Hid (v = R) := Lib.hid (by rw [hv.out, List.take_length, HRR.out])
      clear hv
      go_wp2_with fail
      go_ret
      exact ⟨by rw [HN.out]; rfl, Below.refl _ _⟩

end Go.Proofs.Ytdnljmncdbcgeaa

/- rows as an argument: few and of short paths. -/
namespace Go.Proofs.Ytdnljmncdbcgeaa
open Go.RowKit

structure RV.ok (o : RV) : Prop where
  p : o.p.size ≤ 140737488355328
  v : 0 ≤ o.v ∧ o.v < 18446744073709551616
/-- rows in a slice -/
structure Rws (w : World) (A : Option Addr) (l : List RV) : Prop where
  rd : Rd w (fun _ => True) 5 A l.length (l.flatMap RV.cells)
  ok : ∀ o ∈ l, o.ok
  len : l.length ≤ 140737488355328
theorem Rws.below {w w' : World} {A : Option Addr} {l : List RV} (h : Rws w A l) (k : Below w.heap.size w w') : Rws w' A l := ⟨h.rd.below k, h.ok, h.len⟩
theorem Rws.at_ {w : World} {A : Option Addr} {l : List RV} {i : Nat} (h : Rws w A l) (hi : i < l.length) :
    ∃ b off, A = some ⟨b, off, none⟩ ∧ b < w.heap.size ∧ w.cell? ⟨b, off + i * 5, none⟩ = some (.string l[i].p) ∧ w.cell? ⟨b, off + i * 5 + 1, none⟩ = some (.int .i64 l[i].k) ∧ w.cell? ⟨b, off + i * 5 + 2, none⟩ = some (.int .u64 l[i].v) ∧ w.cell? ⟨b, off + i * 5 + 3, none⟩ = some (.int .u64 l[i].s) ∧ w.cell? ⟨b, off + i * 5 + 4, none⟩ = some (.int .i64 l[i].z) := by
  obtain ⟨b, off, hA, _, hb, hc⟩ := h.rd.2 (by omega)
  have hg : ∀ j, j < 5 → (l.flatMap RV.cells)[i * 5 + j]? = (RV.cells l[i])[j]? := fun j hj => flat_get (k := 5) rv_len l i j hi hj
  refine ⟨b, off, hA, hb, hc _ _ (hg 0 (by omega)), ?_, ?_, ?_, ?_⟩
  · rw [Nat.add_assoc]; exact hc _ _ (hg 1 (by omega))
  · rw [Nat.add_assoc]; exact hc _ _ (hg 2 (by omega))
  · rw [Nat.add_assoc]; exact hc _ _ (hg 3 (by omega))
  · rw [Nat.add_assoc]; exact hc _ _ (hg 4 (by omega))
def lensR (l : List RV) : Nat := (l.map fun o => o.p.size).sum
theorem lensR_take (l : List RV) (i : Nat) (hi : i < l.length) : lensR (l.take (i + 1)) = lensR (l.take i) + l[i].p.size := by
  unfold lensR
  rw [List.take_succ_eq_append_getElem hi, List.map_append, List.sum_append]
  simp
theorem lensR_le (K : Nat) : ∀ l : List RV, (∀ o ∈ l, o.p.size ≤ K) → lensR l ≤ l.length * K
  | [], _ => by simp [lensR]
  | o :: l, h => by
    have h1 := h o (by simp)
    have h2 := lensR_le K l (fun o ho => h o (by simp [ho]))
    simp only [lensR, List.map_cons, List.sum_cons, List.length_cons, Nat.add_mul] at h2 ⊢
    omega
theorem lensR_mem {l : List RV} {o : RV} (h : o ∈ l) : o.p.size ≤ lensR l := by
  induction l with
  | nil => cases h
  | cons y l ih =>
    simp only [lensR, List.map_cons, List.sum_cons] at *
    rcases List.mem_cons.1 h with rfl | h
    · omega
    · have := ih h; omega
/-- the sum that is made: right while few have been seen -/
def SeenR (m : Nat) (l : List RV) (i : Nat) (s : Int) : Prop := i ≤ m → s = (lensR (l.take i) : Int)
theorem SeenR.step {m : Nat} {l : List RV} {i : Nat} {s : Int} (hs : SeenR m l i s) (hm : m ≤ 1000) (hi : i < l.length) (h : ∀ o ∈ l, o.p.size ≤ 140737488355328) : SeenR m l (i + 1) (wrap64 (s + (l[i].p.size : Int))) := by
  intro hi2
  have e := hs (by omega)
  have h1 := lensR_le 140737488355328 (l.take (i + 1)) (fun o ho => h o (List.mem_of_mem_take ho))
  have h4 : (l.take (i + 1)).length ≤ i + 1 := List.length_take_le _ _
  have h2 := lensR_take l i hi
  have h3 : (l.take (i + 1)).length * 140737488355328 ≤ 1001 * 140737488355328 := Nat.mul_le_mul_right _ (by omega)
  rw [h2] at h1 ⊢
  rw [e, IntWalk.wrap64_in _ ⟨by omega, by omega⟩]
  omega
theorem Rws.rw {w : World} {A : Option Addr} {l : List RV} (h : Rws w A l) (hl : l.length ≤ 1000) (hs : lensR l ≤ 5000) : RwR w A l :=
  ⟨h.rd, fun x hx => ⟨by have := lensR_mem hx; omega, (h.ok x hx).v⟩, by omega⟩
/-- rows told of a book's entries -/
def rvS (T : List (List UInt8 × EP)) : List RV := T.map fun y => ⟨⟨⟨y.1⟩⟩, y.2.2.1, y.2.1, 0, y.2.2.2.length⟩
theorem rvS_len (T : List (List UInt8 × EP)) : (rvS T).length = T.length := by simp [rvS]
theorem rvS_cells (T : List (List UInt8 × EP)) : (rvS T).flatMap RV.cells = T.flatMap rowC := by
  unfold rvS
  rw [List.flatMap_map]
  rfl
theorem rvS_pv (T : List (List UInt8 × EP)) : (rvS T).map RV.pv = T.map fun y => (y.1, y.2.1) := by
  unfold rvS
  rw [List.map_map]
  rfl
theorem OwRw.rw {w : World} {base : Nat} {A : Option Addr} {c : Nat} {T : List (List UInt8 × EP)} (h : OwRw w base A c T) (hl : T.length ≤ 1000) (hT : ∀ y ∈ T, y.1.length ≤ 1048576 ∧ 0 ≤ y.2.1 ∧ y.2.1 < 18446744073709551616) : RwR w A (rvS T) := by
  refine ⟨?_, fun x hx => ?_, by rw [rvS_len]; omega⟩
  · rw [rvS_len, rvS_cells]
    exact Rd.of_own h (fun _ _ _ => trivial)
  · obtain ⟨y, hy, rfl⟩ := List.mem_map.1 hx
    have := hT y hy
    exact ⟨this.1, this.2⟩
theorem bestV_none (l : List (List UInt8 × Int)) (p : List UInt8) (h : ∀ r ∈ l, r.1 ≠ p) : bestV l p = 0 := by
  induction l using snoc_ind with
  | h0 => rfl
  | h1 l r ih =>
    rw [bestV_snoc, if_neg (fun e => h r (by simp) e.1), ih (fun r hr => h r (by simp [hr]))]
theorem bestV_one (l : List (List UInt8 × Int)) (p : List UInt8) (v : Int) (_hv : 0 ≤ v) (h : ∀ r ∈ l, r.1 = p → r.2 = v) : bestV l p = 0 ∨ bestV l p = v := by
  induction l using snoc_ind with
  | h0 => exact .inl rfl
  | h1 l r ih =>
    rw [bestV_snoc]
    split
    · rename_i h1
      exact .inr (h r (by simp) h1.1)
    · exact ih (fun r hr => h r (by simp [hr]))
theorem bestV_ge (l : List (List UInt8 × Int)) (r : List UInt8 × Int) (h : r ∈ l) : r.2 ≤ bestV l r.1 := by
  induction l using snoc_ind with
  | h0 => cases h
  | h1 l x ih =>
    rw [bestV_snoc]
    rcases List.mem_append.1 h with h | h
    · have := ih h
      split <;> omega
    · obtain rfl := List.mem_singleton.1 h
      split
      · omega
      · rename_i h1
        have : ¬ bestV l r.1 < r.2 := fun e => h1 ⟨rfl, e⟩
        omega
/-- rows of all entries tell each one's version -/
theorem best_own {T : List (List UInt8 × EP)} (hs : SortR T) (h0 : ∀ y ∈ T, 0 ≤ y.2.1) (p : List UInt8) : bestV (T.map fun y => (y.1, y.2.1)) p = verP T p := by
  unfold verP
  rcases hg : getR T p with _ | o
  · refine bestV_none _ _ fun r hr e => ?_
    obtain ⟨y, hy, rfl⟩ := List.mem_map.1 hr
    have := hs.get hy
    rw [show y.1 = p from e, hg] at this
    cases this
  · have hm := getR_mem hg
    have h1 := bestV_ge (T.map fun y => (y.1, y.2.1)) (p, o.1) (List.mem_map.2 ⟨(p, o), hm, rfl⟩)
    have h2 := bestV_one (T.map fun y => (y.1, y.2.1)) p o.1 (h0 _ hm) (fun r hr e => by
      obtain ⟨y, hy, rfl⟩ := List.mem_map.1 hr
      have := hs.get hy
      rw [show y.1 = p from e, hg] at this
      injection this with this
      rw [this])
    have h3 := h0 _ hm
    simp only at h1 h3
    rcases h2 with h2 | h2
    · show _ = o.1
      omega
    · exact h2
theorem fetch_own {T : List (List UInt8 × EP)} (hs : SortR T) (h0 : ∀ y ∈ T, 0 ≤ y.2.1) : fetchS T (T.map fun y => (y.1, y.2.1)) = [] := by
  unfold fetchS
  rw [List.filter_eq_nil_iff]
  intro p _
  rw [best_own hs h0]
  simp
theorem give_own {T : List (List UInt8 × EP)} (hs : SortR T) (h0 : ∀ y ∈ T, 0 ≤ y.2.1) : giveS T (T.map fun y => (y.1, y.2.1)) = [] := by
  unfold giveS
  rw [List.filter_eq_nil_iff]
  intro p _
  rw [best_own hs h0]
  simp
theorem rowsGo_whole (n : Int) : ∀ (T acc : List (List UInt8 × EP)), (acc.length : Int) + T.length ≤ n → rowsGo [] n T acc = (acc ++ T, false)
  | [], acc, _ => by simp [rowsGo]
  | y :: T, acc, h => by
    simp only [List.length_cons] at h
    rw [rowsGo_cons, if_neg (by simp [behB]), if_neg (by omega), rowsGo_whole n T (acc ++ [y]) (by simp; omega)]
    simp
end Go.Proofs.Ytdnljmncdbcgeaa
