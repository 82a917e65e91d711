/- book: New, Clone. -/
import Derived.Test.YtdnljmncdbcgeaaA11

namespace Go.Proofs.Ytdnljmncdbcgeaa
open Go.RowKit Go.Maps Go.Shelf

theorem bookNew_any (w : World) : Calls Try.prog 49 #[] w fun e w' => ∃ bb, e = .returned (.pointer (some ⟨bb, 0, none⟩)) ∧ BookAt w' bb none [] 0 ∧ w.heap.size ≤ bb ∧ Below w.heap.size w w' := by
  have x0 := Blk.new w 69 #[.int .u64 0, .map none]
  go_enter Try.func49, Try.ntmps49
  go_wp2_with fail
  go_ret
  exact ⟨w.heap.size, rfl, ⟨x0, .inl ⟨rfl, rfl⟩, by simp, BookOk.nil⟩, Nat.le_refl _, (by repeat (first | exact Below.refl _ _ | refine Below.alloc ?_ (by simp) _ | refine Below.setCell ?_ (by simp) _ | refine Below.drew ?_))⟩
theorem cloneB_any {b : Nat} {L : List (List UInt8 × Value)} {w : World} (h : MapAt w Try.prog 9 b L) :
    Calls Try.prog 74 #[.map (some b)] w fun e w' => e = .returned (.map (some w.heap.size)) ∧ MapAt w' Try.prog 9 w.heap.size L ∧ Below w.heap.size w w' := by
  obtain ⟨D, h1, h2⟩ := h.own
  have := AnyW.maps_Clone_owns Try.cloneB 9 heldR b L.length D w h1
  change Calls Try.prog 74 _ _ _ at this
  refine this.mono ?_
  rintro e w' ⟨rfl, k1, k2, k3⟩
  exact ⟨rfl, ⟨h.sort, ⟨D, k1, h2⟩, h.len⟩, k3⟩
theorem cloneB_nil (w : World) : Calls Try.prog 74 #[.map none] w fun e w' => e = .returned (.map none) ∧ w' = w := AnyW.maps_Clone_nil Try.cloneB w
theorem bookClone_nil (w : World) : Calls Try.prog 32 #[.pointer none] w fun e w' => e = .returned (.pointer none) ∧ w = w' := by
  go_enter Try.func32, Try.ntmps32
  go_wp2_with fail
  go_ret
  exact ⟨rfl, rfl⟩
/-- the map of a book, cloned -/
theorem BookAt.clone {w : World} {bb : Nat} {mo : Option Nat} {L : List (List UInt8 × EV)} {s : Int} (h : BookAt w bb mo L s) :
    Calls Try.prog 74 #[.map mo] w fun e w' => (∃ mo', e = .returned (.map mo') ∧ ((mo' = none ∧ L = []) ∨ ∃ mb, mo' = some mb ∧ MapAt w' Try.prog 9 mb (mapB L) ∧ w.heap.size ≤ mb)) ∧ Below w.heap.size w w' := by
  rcases h.map with ⟨rfl, hL⟩ | ⟨mb, rfl, hm⟩
  · refine (cloneB_nil w).mono ?_
    rintro e w' ⟨rfl, rfl⟩
    exact ⟨⟨none, rfl, .inl ⟨rfl, hL⟩⟩, Below.refl _ _⟩
  · refine (cloneB_any hm).mono ?_
    rintro e w' ⟨rfl, h1, h2⟩
    exact ⟨⟨_, rfl, .inr ⟨_, rfl, h1, Nat.le_refl _⟩⟩, h2⟩

set_option maxRecDepth 100000 in
set_option maxHeartbeats 1000000 in
theorem bookClone_any (bb : Nat) (mo : Option Nat) (L : List (List UInt8 × EV)) (s : Int) (w : World) (h : BookAt w bb mo L s) :
    Calls Try.prog 32 #[.pointer (some ⟨bb, 0, none⟩)] w fun e w' => ∃ cb mo', e = .returned (.pointer (some ⟨cb, 0, none⟩)) ∧ BookAt w' cb mo' L s ∧ w.heap.size ≤ cb ∧ (∀ mb, mo' = some mb → w.heap.size ≤ mb ∧ mb ≠ cb) ∧ Below w.heap.size w w' := by
  have b0 := h.blk
  have HB := Lib.hid h
  clear h
  go_enter Try.func32, Try.ntmps32
  go_wp2_with fail
  refine wp_region_m [true, true, true, true, true, true, true, true, false, true] (fun W => Below w.heap.size w W) (by kernel_rfl) (by kernel_rfl) ?_
  simp only [List.length_cons, List.length_nil, Nat.zero_add, Nat.reduceAdd, List.take_succ_cons, List.take_zero, List.drop_succ_cons, List.drop_zero]
  refine mx_move _ (by kernel_rfl) rfl ⟨_, (by ((try simp [go_sem]); (try rfl); done)), _, (by (simp only [Act.put, List.setIfInBounds_toArray, List.set_cons_zero, List.set_cons_succ]; rfl)), ?_⟩
  refine mx_val (by kernel_rfl) ⟨_, (by (intro w' hC; clear hC; (try go_simp); (try with_reducible rfl); done)), _, (by (simp only [Act.put, List.setIfInBounds_toArray, List.set_cons_zero, List.set_cons_succ]; rfl)), ?_⟩
  refine mx_val (by kernel_rfl) ⟨_, (by (intro w' hC; clear hC; (try go_simp); (try with_reducible rfl); done)), _, (by (simp only [Act.put, List.setIfInBounds_toArray, List.set_cons_zero, List.set_cons_succ]; rfl)), ?_⟩
  refine mx_val (by kernel_rfl) ⟨_, (by (intro w' hC; (have q := (b0.below hC).cell 0; simp only [List.getElem?_toArray, List.getElem?_cons_zero] at q); clear hC; (try go_simp); (try with_reducible rfl); done)), _, (by (simp only [Act.put, List.setIfInBounds_toArray, List.set_cons_zero, List.set_cons_succ]; rfl)), ?_⟩
  refine mx_move _ (by kernel_rfl) rfl ⟨_, (by ((try simp [go_sem]); (try rfl); done)), _, (by (simp only [Act.put, List.setIfInBounds_toArray, List.set_cons_zero, List.set_cons_succ]; rfl)), ?_⟩
  refine mx_val (by kernel_rfl) ⟨_, (by (intro w' hC; clear hC; (try go_simp); (try with_reducible rfl); done)), _, (by (simp only [Act.put, List.setIfInBounds_toArray, List.set_cons_zero, List.set_cons_succ]; rfl)), ?_⟩
  refine mx_val (by kernel_rfl) ⟨_, (by (intro w' hC; clear hC; (try go_simp); (try with_reducible rfl); done)), _, (by (simp only [Act.put, List.setIfInBounds_toArray, List.set_cons_zero, List.set_cons_succ]; rfl)), ?_⟩
  refine mx_val (by kernel_rfl) ⟨_, (by (intro w' hC; (have q := (b0.below hC).cell 1; simp only [List.getElem?_toArray, List.getElem?_cons_zero, List.getElem?_cons_succ] at q); clear hC; (try go_simp); (try with_reducible rfl); done)), _, (by (simp only [Act.put, List.setIfInBounds_toArray, List.set_cons_zero, List.set_cons_succ]; rfl)), ?_⟩
  refine mx_call ((Below.refl _ _).drew) (by kernel_rfl) ?_ ((HB.out.below (Below.refl _ _).drew).clone) ?_
  · (go_simp; done)
  rintro e w1 ⟨⟨mo', rfl, hmo⟩, hb1⟩
  have hb : Below w.heap.size w w1 := (Below.refl _ _).drew.trans (hb1.mono (Nat.le_refl _))
  refine ⟨_, rfl, _, (by (simp only [Act.put, List.setIfInBounds_toArray, List.set_cons_zero, List.set_cons_succ]; rfl)), ?_⟩
  refine mx_val (by kernel_rfl) ⟨_, (by (intro w' hC; clear hC; (try go_simp); (try with_reducible rfl); done)), _, (by (simp only [Act.put, List.setIfInBounds_toArray, List.set_cons_zero, List.set_cons_succ]; rfl)), ?_⟩
  refine mx_end hb ?_
  have x0 := Blk.new w1 69 #[.int .u64 s, .map mo']
  have hba : Below w1.heap.size w1 (w1.alloc (.cells #[.int .u64 s, .map mo'] 69)) := (Below.refl _ _).alloc (Nat.le_refl _) _
  have hw2 := hb.trans (hba.mono hb.size)
  have HN : Hid (BookAt (w1.alloc (.cells #[.int .u64 s, .map mo'] 69)) w1.heap.size mo' L s) := Lib.hid ⟨x0, by
    rcases hmo with h1 | ⟨mb, e, hm, _⟩
    · exact .inl h1
    · exact .inr ⟨mb, e, hm.block (hba.block mb hm.lt)⟩, fun x hx => (HB.out.ok x hx).below hw2, HB.out.plain⟩
  have HMO : Hid (∀ mb, mo' = some mb → w.heap.size ≤ mb ∧ mb ≠ w1.heap.size) := Lib.hid (fun mb e => by
    rcases hmo with ⟨h1, _⟩ | ⟨mb', e', hm, hg⟩
    · rw [h1] at e; cases e
    · rw [e'] at e
      injection e with e
      subst e
      refine ⟨?_, ?_⟩
      · simpa using hg
      · have := hm.lt; omega)
  have hs := hb.size
  clear hmo hb1 b0 x0 hba
  go_wp2_with fail
  go_ret
  exact ⟨_, mo', rfl, HN.out, hs, HMO.out, hw2⟩

end Go.Proofs.Ytdnljmncdbcgeaa

/- tenderlaw22: lives, Plays. -/
namespace Go.Proofs.Ytdnljmncdbcgeaa
open Go.RowKit Go.Maps

/-- entries taken, one after the other -/
def playB (T : List (List UInt8 × EP)) (l : List (List UInt8 × EP)) : List (List UInt8 × EP) := l.foldl (fun T y => (putP T y.1 y.2).1) T
theorem playB_snoc (T l : List (List UInt8 × EP)) (y : List UInt8 × EP) : playB T (l ++ [y]) = (putP (playB T l) y.1 y.2).1 := by simp [playB, List.foldl_append]
theorem BookOk.play {T l : List (List UInt8 × EP)} (h : BookOk T) : BookOk (playB T l) := by
  induction l generalizing T with
  | nil => exact h
  | cons y l ih => exact ih (h.put y.1 y.2)
/-- a book that took entries, and the document's -/
structure PlayedB (w : World) (T : List (List UInt8 × EP)) (bb : Nat) (mo : Option Nat) (L : List (List UInt8 × EV)) (s : Int) (B : Option Addr) (M : List EV) : Prop where
  book : BookAt w bb mo L s
  plain : Hid (plainB L = T)
  es : EsR w B M
  same : Hid (M.map EV.pl = T)
theorem PlayedB.below {w w' : World} {T : List (List UInt8 × EP)} {bb : Nat} {mo : Option Nat} {L : List (List UInt8 × EV)} {s : Int} {B : Option Addr} {M : List EV} (h : PlayedB w T bb mo L s B M) (k : Below w.heap.size w w') : PlayedB w' T bb mo L s B M := ⟨h.book.below k, h.plain, h.es.below k, h.same⟩
theorem PlayedB.ok {w : World} {T : List (List UInt8 × EP)} {bb : Nat} {mo : Option Nat} {L : List (List UInt8 × EV)} {s : Int} {B : Option Addr} {M : List EV} (h : PlayedB w T bb mo L s B M) : BookOk T := by rw [← h.plain.out]; exact h.book.plain
/-- entries stay where a book is written -/
theorem EsR.notMap {w w' : World} {A : Option Addr} {M : List EV} {mb : Nat} {K : List (List UInt8 × Value)} (h : EsR w A M) (hm : MapAt w Try.prog 9 mb K) (k : Fr (fun x => x = mb) w w') : EsR w' A M := by
  have hr : Rd w (fun b => b ≠ mb) 4 A M.length (M.flatMap EV.cells) := by
    refine ⟨h.rd.1, fun hn => ?_⟩
    obtain ⟨b, off, e, hz, hlt, hc⟩ := h.rd.2 hn
    refine ⟨b, off, e, fun eb => ?_, hlt, hc⟩
    subst eb
    rcases M with _ | ⟨x, M⟩
    · simp at hn
    · have h1 := hc 0 (.string x.p) rfl
      obtain ⟨D, ⟨es, clock, h2, _⟩, _⟩ := hm.own
      simp [World.cell?, h2] at h1
  exact ⟨(hr.fr k (fun b _ hz e => hz e)).mono (fun _ _ _ => trivial), fun x hx => ⟨((((h.ok x hx).1).not_mapAt hm).fr k (fun b _ hz e => hz.2 e)).mono (fun _ _ _ => trivial), (h.ok x hx).2⟩, h.len⟩
/-- entries stay where a book is written -/
theorem EsR.bookTo {w w' : World} {A : Option Addr} {M : List EV} {bb : Nat} {mo : Option Nat} {L : List (List UInt8 × EV)} {s : Int} (h : EsR w A M) (hb : BookAt w bb mo L s) (k : Fr (fun g => g = bb ∨ mo = some g) w w') : EsR w' A M := by
  have hin : ∀ {A : Option Addr} {n sz : Nat} {xs : List Value}, Rd w (fun _ => True) sz A n xs → (0 < n * sz → ∃ u, xs[0]? = some u ∧ u ≠ .int .u64 s ∧ u ≠ .map mo) → Rd w (fun b => ¬ (b = bb ∨ mo = some b)) sz A n xs := fun {A n sz xs} h1 h2 => by
    refine ⟨h1.1, fun hn => ?_⟩
    obtain ⟨b, off, e, hz, hlt, hc⟩ := h1.2 hn
    obtain ⟨u, hu, hu1, hu2⟩ := h2 hn
    refine ⟨b, off, e, ?_, hlt, hc⟩
    have h3 := hc 0 u hu
    rw [Nat.add_zero] at h3
    rintro (rfl | hm)
    · rw [hb.blk.cell] at h3
      rcases off with _ | _ | off
      · simp at h3; exact hu1 h3.symm
      · simp at h3; exact hu2 h3.symm
      · simp at h3
    · rcases hb.map with ⟨e0, _⟩ | ⟨mb, e0, hm2⟩
      · rw [e0] at hm; cases hm
      · rw [e0] at hm
        injection hm with hm
        subst hm
        obtain ⟨D, ⟨es, clock, h4, _⟩, _⟩ := hm2.own
        simp [World.cell?, h4] at h3
  refine ⟨((hin h.rd (fun hn => ?_)).fr k (fun b _ hz e => hz e)).mono (fun _ _ _ => trivial), fun x hx => ⟨((hin (h.ok x hx).1 (fun hn => ?_)).fr k (fun b _ hz e => hz e)).mono (fun _ _ _ => trivial), (h.ok x hx).2⟩, h.len⟩
  · rcases M with _ | ⟨x, M⟩
    · simp at hn
    · exact ⟨.string x.p, rfl, by simp, by simp⟩
  · rcases hl : x.x.l with _ | ⟨y, l⟩
    · rw [hl] at hn; simp at hn
    · exact ⟨bv y, by simp, by simp [bv], by simp [bv]⟩
theorem Ents.esr {w : World} {Z : Nat → Prop} {A : Option Addr} {l : List EV} (h : Ents w Z A l) (hl : l.length ≤ 1000000) : EsR w A l := ⟨h.rd.mono (fun _ _ _ => trivial), fun x hx => (h.ok x hx).x.mono (fun _ _ _ => trivial), hl⟩
theorem lightE_all {l : List EV} (h : lightE l = true) : l.length ≤ 400 ∧ ∀ x ∈ l, x.p.size ≤ 20000 ∧ x.x.l.length ≤ 20000 := by
  unfold lightE at h
  rw [Bool.and_eq_true, decide_eq_true_eq, decide_eq_true_eq] at h
  refine ⟨h.2, fun x hx => ?_⟩
  have : lenE x ≤ lensE l := by
    have h1 := h.1
    clear h h1
    induction l with
    | nil => cases hx
    | cons y l ih =>
      unfold lensE at *
      rw [List.map_cons, List.sum_cons]
      rcases List.mem_cons.1 hx with rfl | hx
      · omega
      · have := ih hx; omega
  unfold lenE at this
  omega

set_option maxRecDepth 100000 in
set_option maxHeartbeats 2000000 in
theorem plays22_any (A : Option Addr) (c : Nat) (l : List EV) (Z : Nat → Prop) (w : World) (h : Ents w Z A l) (hl : l.length ≤ 400 ∧ ∀ x ∈ l, x.p.size ≤ 20000 ∧ x.x.l.length ≤ 20000) :
    Calls Try.prog 13 #[.slice A l.length c] w fun e w' => ∃ (bb : Nat) (mo : Option Nat) (L : List (List UInt8 × EV)) (B : Option Addr) (d : Nat) (M : List EV), e = .returned (.tuple #[.pointer (some ⟨bb, 0, none⟩), .agg #[.int .u64 0, .slice B M.length d], .bool true]) ∧ PlayedB w' (playB [] (l.map EV.pl)) bb mo L 0 B M ∧
      w.heap.size ≤ bb ∧ (∀ m, mo = some m → w.heap.size ≤ m) ∧ Below w.heap.size w w' := by
  have hb0 : Below w.heap.size w (w.alloc (.cells #[.int .u64 0, .slice none 0 0] 33)) := (by repeat (first | exact Below.refl _ _ | refine Below.alloc ?_ (by simp) _ | refine Below.setCell ?_ (by simp) _ | refine Below.drew ?_))
  have x0 := Blk.new w 33 #[.int .u64 0, .slice none 0 0]
  have HA := Lib.hid h
  have HL := Lib.hid hl.2
  have hll := hl.1
  clear h hl
  go_enter Try.func13, Try.ntmps13
  go_wp2_with fail
  generalize w.alloc (.cells #[.int .u64 0, .slice none 0 0] 33) = w0 at *
  refine (bookNew_any w0).mono ?_
  rintro e w1 ⟨bb, rfl, hB1, hbb, hb1⟩
  have hw1 := hb0.trans (hb1.mono hb0.size)
  have x1 := x0.below hb1
  have hba : Below w1.heap.size w1 (w1.alloc (.cells #[.int .u64 0, .slice none 0 0] 33)) := (Below.refl _ _).alloc (Nat.le_refl _) _
  have y2 := Blk.new w1 33 #[.int .u64 0, .slice none 0 0]
  have x2 := x1.below hba
  have hw2 := hw1.trans (hba.mono hw1.size)
  have hB2 := hB1.below hba
  have hbl := hB1.blk.lt
  have HB2 := Lib.hid hB2
  have hsz0 := hb0.size
  obtain ⟨yb, hyb⟩ : ∃ yb, yb = w1.heap.size := ⟨_, rfl⟩
  clear hB1 hB2 x0 x1 hb0 hb1
  go_upto_region 4 with (fail)
  generalize w1.alloc (.cells #[.int .u64 0, .slice none 0 0] 33) = w2 at *
  rw [← hyb] at y2 hbl ⊢
  have hxy : w.heap.size ≠ yb := by have := x2.lt; have := hw1.size; omega
  clear hba hyb
  go_wp2_with fail
  go_loopw [18] (fun iv wr => ∃ (i : Nat) (mo : Option Nat) (L : List (List UInt8 × EV)) (B : Option Addr) (d : Nat) (M : List EV), i ≤ l.length ∧ iv = .int .i64 (i : Int) ∧ Blk wr yb 33 #[.int .u64 0, .slice B M.length d] ∧ Blk wr w.heap.size 33 #[.int .u64 0, .slice none 0 0] ∧ PlayedB wr (playB [] ((l.take i).map EV.pl)) bb mo L 0 B M ∧ (∀ m, mo = some m → w.heap.size ≤ m) ∧ Below w.heap.size w wr) (fun iv _ => l.length - (intOf iv).toNat)
  case atStart => exact ⟨0, none, [], none, 0, [], Nat.zero_le _, rfl, y2, x2, ⟨HB2.out, rfl, ⟨Rd.nil, by simp, by simp⟩, rfl⟩, by simp, hw2⟩
  case round =>
    clear x2 y2 hw2 HB2
    obtain ⟨i, mo, L, B, d, M, hi, rfl, y2, x2, hP, hmo, hb⟩ := hrel
    by_cases hlt : i < l.length
    · have hA := HA.out.below hb
      obtain ⟨b, off, rfl, _, hbb', c0, c1, c2, c3⟩ := ent_at hA.rd hlt
      have hxo := hA.ok _ (List.getElem_mem hlt)
      have hxl := HL.out _ (List.getElem_mem hlt)
      have hps : Hid (playB [] ((l.take (i + 1)).map EV.pl) = (putP (playB [] ((l.take i).map EV.pl)) (tl l[i].p) l[i].ep).1) := Lib.hid (by rw [pl_snoc l i hlt, playB_snoc]; rfl)
      obtain ⟨x, hx⟩ : ∃ x, x = l[i] := ⟨_, rfl⟩
      rw [← hx] at c0 c1 c2 c3 hxo hxl hps
      obtain ⟨T, hT⟩ : ∃ T, T = playB [] ((l.take i).map EV.pl) := ⟨_, rfl⟩
      rw [← hT] at hP hps
      obtain ⟨hx1, hx2⟩ := hxl
      have hba : Below wr.heap.size wr (wr.alloc (.cells #[.string x.p, .int .u64 x.v, .int .i64 x.k, .slice x.x.A x.x.l.length x.x.c] 28)) := (Below.refl _ _).alloc (Nat.le_refl _) _
      have z3 := Blk.new wr 28 #[.string x.p, .int .u64 x.v, .int .i64 x.k, .slice x.x.A x.x.l.length x.x.c]
      have HP3 := Lib.hid (hP.below hba)
      have HX3 := Lib.hid (hxo.x.below hba)
      have hw3 := hb.trans (hba.mono hb.size)
      have hv := hxo.v
      have hyl := y2.lt
      have hxl0 := x2.lt
      replace x2 := x2.below hba
      replace y2 := y2.below hba
      clear hP hA hxo hx hT
      go_upto_region 7 with (fail)
      generalize wr.alloc (.cells #[.string x.p, .int .u64 x.v, .int .i64 x.k, .slice x.x.A x.x.l.length x.x.c] 28) = w3 at *
      have p0 := y2.cell 0
      have p1 := y2.cell 1
      simp only [List.getElem?_toArray, List.getElem?_cons_zero, List.getElem?_cons_succ] at p0 p1
      have q0 := z3.cell 0
      have q1 := z3.cell 1
      have q2 := z3.cell 2
      have q3 := z3.cell 3
      simp only [List.getElem?_toArray, List.getElem?_cons_zero, List.getElem?_cons_succ] at q0 q1 q2 q3
      have HE := Lib.hid (refPut22_any B d M 0 x w3 HP3.out.es (HX3.out.mono (fun _ _ _ => trivial)) (by omega) hv (by omega) (by rw [HP3.out.same.out]; exact HP3.out.ok))
      rw [HP3.out.same.out] at HE
      have HBP := Lib.hid (fun w (hB : BookAt w bb mo L 0) (hy : By w (fun _ => True) x.x.A x.x.l) => bookPut_any bb mo L 0 (tl x.p) x.v x.k x.x.A x.x.c x.x.l _ w hB hy (by rw [tl_len]; omega) hv (by omega))
      rw [HP3.out.plain.out] at HBP
      obtain ⟨R, hR⟩ : ∃ R, R = putP T (tl x.p) x.ep := ⟨_, rfl⟩
      rw [show putP T (tl x.p) (x.v, x.k, x.x.l) = R from hR.symm] at HBP
      rw [← hR] at HE hps
      obtain ⟨T', E⟩ := R
      dsimp only at HE HBP hps
      clear hba hR
      go_wp2_with fail
      refine HE.out.mono ?_
      rintro e w4 ⟨⟨B4, d4, M4, rfl, hM4, hE4⟩, hb4⟩
      have hw4 := hw3.trans (hb4.mono hw3.size)
      have hba : Below w4.heap.size w4 (w4.alloc (.cells #[.int .u64 0, .slice B4 M4.length d4] 33)) := (Below.refl _ _).alloc (Nat.le_refl _) _
      have y5 := Blk.new w4 33 #[.int .u64 0, .slice B4 M4.length d4]
      have hw5 := hw4.trans (hba.mono hw4.size)
      have HB5 := Lib.hid ((HP3.out.book.below hb4).below hba)
      have HX5 := Lib.hid (((HX3.out.below hb4).below hba).1.mono (fun _ _ _ => trivial))
      have HM5 := Lib.hid hM4
      have HE5 := Lib.hid (hE4.below hba)
      replace x2 := (x2.below hb4).below hba
      replace y2 := (y2.below hb4).below hba
      replace z3 := (z3.below hb4).below hba
      have hs4 := hb4.size
      have hs3 := hw3.size
      have hz3l := z3.lt
      clear hM4 hE4 hb4 HE HX3 HP3 p0 p1 q0 q1 q2 q3
      go_upto_region 8 with (fail)
      generalize w4.alloc (.cells #[.int .u64 0, .slice B4 M4.length d4] 33) = w5 at *
      have q0 := z3.cell 0
      have q1 := z3.cell 1
      have q2 := z3.cell 2
      have q3 := z3.cell 3
      simp only [List.getElem?_toArray, List.getElem?_cons_zero, List.getElem?_cons_succ] at q0 q1 q2 q3
      clear hba
      go_wp2_with fail
      refine (HBP.out w5 HB5.out HX5.out).mono ?_
      rintro e w6 ⟨rfl, hto⟩
      obtain ⟨⟨mo', L', hB6, hL6, hmo6⟩, hfr⟩ := hto
      have n1 := HB5.out.notB x2 (by decide)
      have n2 := HB5.out.notB y2 (by decide)
      have n5 := HB5.out.notB y5 (by decide)
      have x6 := x2.fr hfr n1
      have y6 := y2.fr hfr n2
      have y56 := y5.fr hfr n5
      have HE6 := Lib.hid (HE5.out.bookTo HB5.out hfr)
      have HB6 := Lib.hid hB6
      have hL6' := Lib.hid hL6.out
      have hw6 : Below w.heap.size w w6 := hw5.trans (hfr.below hw5.size (fun k hk e => by
        rcases e with e | e
        · omega
        · have := hmo _ e; omega))
      have hmo7 : ∀ m, mo' = some m → w.heap.size ≤ m := fun m e => by
        rcases hmo6 m e with e | e
        · exact hmo m e
        · have := hw5.size; omega
      have hne : (E != E) = false := by simp
      have kR : Fr (fun x => x = yb) w6 ((w6.setCell ⟨yb, 0, none⟩ (.int .u64 0)).setCell ⟨yb, 1, none⟩ (.slice B4 M4.length d4)) := ((Fr.refl (fun x => x = yb) w6).setAt yb _ rfl _).setAt yb _ rfl _
      have yR := (y6.set_ 0 (.int .u64 0)).set_ 1 (.slice B4 M4.length d4)
      simp only [List.setIfInBounds_toArray, List.set_cons_zero, List.set_cons_succ] at yR
      have xR := x6.fr kR (fun e => hxy e)
      have HB7 := Lib.hid (HB6.out.fr_blk y6 (by decide) (by decide) kR)
      have HE7 := Lib.hid (HE6.out.notBook y6 (by simp) (by simp) kR)
      have hw7 := hw6.trans (kR.below (B := w.heap.size) hw6.size (fun k hk e => by omega))
      have r0 := y56.cell 0
      have r1 := y56.cell 1
      simp only [List.getElem?_toArray, List.getElem?_cons_zero, List.getElem?_cons_succ] at r0 r1
      have fr := fun o => y6.frozen o
      have p0 := y6.cell 0
      have p1 := y6.cell 1
      simp only [List.getElem?_toArray, List.getElem?_cons_zero, List.getElem?_cons_succ] at p0 p1
      have hs6 := hw6.size
      clear hfr hB6 hL6 HB5 HX5 HE5 HBP n1 n2 n5 x2 y2 y5 z3 q0 q1 q2 q3 x6 y56 hmo6
      go_wp2_with fail
      generalize (w6.setCell ⟨yb, 0, none⟩ (.int .u64 0)).setCell ⟨yb, 1, none⟩ (.slice B4 M4.length d4) = w7 at *
      go_roundw
      case rel => exact ⟨i + 1, mo', L', B4, d4, M4, hlt, by go_num, yR, xR, ⟨HB7.out, by show _ = _; rw [hL6'.out, hps.out], HE7.out, by show _ = _; rw [HM5.out.out, hps.out]⟩, hmo7, hw7⟩
      case measure => simp [intOf]; omega
    · have e : i = l.length := by omega
      subst e
      rw [List.take_length] at hP
      go_wp2_with fail
      refine wp_region_m [true, true, true] (fun W => Below wr.heap.size wr W) (by kernel_rfl) (by kernel_rfl) ?_
      simp only [List.length_cons, List.length_nil, Nat.zero_add, Nat.reduceAdd, List.take_succ_cons, List.take_zero, List.drop_succ_cons, List.drop_zero]
      refine mx_move _ (by kernel_rfl) rfl ⟨_, (by ((try simp [go_sem]); (try rfl); done)), _, (by (simp only [Act.put, List.setIfInBounds_toArray, List.set_cons_zero, List.set_cons_succ]; rfl)), ?_⟩
      refine mx_val (by kernel_rfl) ⟨_, (by (intro w' hC; (have q0 := (y2.below hC).cell 0; have q1 := (y2.below hC).cell 1; simp only [List.getElem?_toArray, List.getElem?_cons_zero, List.getElem?_cons_succ] at q0 q1); clear hC; (try go_simp); (try with_reducible rfl); done)), _, (by (simp only [Act.put, List.setIfInBounds_toArray, List.set_cons_zero, List.set_cons_succ]; rfl)), ?_⟩
      refine mx_assign _ (by kernel_rfl) rfl ⟨_, (by ((try simp [go_sem]); (try rfl); done)), _, (by (simp only [Act.put, List.setIfInBounds_toArray, List.set_cons_zero, List.set_cons_succ]; rfl)), ?_⟩
      refine mx_end (Below.refl _ _).drew ?_
      have hbd : Below wr.heap.size wr wr.drew := (Below.refl _ _).drew
      replace hP := hP.below hbd
      replace x2 := x2.below hbd
      replace hb := hb.trans (hbd.mono hb.size)
      clear y2 hbd
      generalize wr.drew = wd at *
      have kR : Fr (fun x => x = w.heap.size) wd ((wd.setCell ⟨w.heap.size, 0, none⟩ (.int .u64 0)).setCell ⟨w.heap.size, 1, none⟩ (.slice B M.length d)) := ((Fr.refl (fun x => x = w.heap.size) wd).setAt (w.heap.size) _ rfl _).setAt (w.heap.size) _ rfl _
      have yR := (x2.set_ 0 (.int .u64 0)).set_ 1 (.slice B M.length d)
      simp only [List.setIfInBounds_toArray, List.set_cons_zero, List.set_cons_succ] at yR
      have hwR := hb.trans (kR.below (B := w.heap.size) hb.size (fun k hk e => by omega))
      have HPR := Lib.hid (PlayedB.mk (hP.book.fr_blk x2 (by decide) (by decide) kR) hP.plain (hP.es.notBook x2 (by simp) (by simp) kR) hP.same)
      have fr := fun o => x2.frozen o
      have r0 := x2.cell 0
      have r1 := x2.cell 1
      simp only [List.getElem?_toArray, List.getElem?_cons_zero, List.getElem?_cons_succ] at r0 r1
      clear hP
      go_wp2_with fail
      generalize (wd.setCell ⟨w.heap.size, 0, none⟩ (.int .u64 0)).setCell ⟨w.heap.size, 1, none⟩ (.slice B M.length d) = wR at *
      have s0 := yR.cell 0
      have s1 := yR.cell 1
      simp only [List.getElem?_toArray, List.getElem?_cons_zero, List.getElem?_cons_succ] at s0 s1
      refine bodyPost_ret (v := .tuple #[.pointer (some ⟨bb, 0, none⟩), .agg #[.int .u64 0, .slice B M.length d], .bool true]) (by simp [results, Try.results13, go_sem, s0, s1]) rfl ?_
      exact ⟨bb, mo, L, B, d, M, rfl, HPR.out, by omega, hmo, hwR⟩

end Go.Proofs.Ytdnljmncdbcgeaa

/- tenderlaw22: lives. -/
namespace Go.Proofs.Ytdnljmncdbcgeaa
open Go.RowKit Go.Maps

def exBk : List (List UInt8 × EP) := [([97], (1048577, 2, []))]
theorem exB1 : putP [] [97] (1048577, 2, []) = (exBk, 0) := by decide
theorem exB2 : putP exBk [97] (1048577, 2, []) = (exBk, 31) := by decide
/-- one call of Put of an entry without bytes -/
theorem put_step {w : World} {bb : Nat} {mo : Option Nat} {L : List (List UInt8 × EV)} {T T' : List (List UInt8 × EP)} {m s : Int} (p : List UInt8) (v k : Int) (h : BookAt w bb mo L s) (hT : Hid (plainB L = T)) (hm : putP T p (v, k, []) = (T', m)) (hp : p.length ≤ 1048576) (hv : 0 ≤ v ∧ v < 18446744073709551616) :
    Calls Try.prog 15 #[.pointer (some ⟨bb, 0, none⟩), .agg #[.string ⟨⟨p⟩⟩, .int .u64 v, .int .i64 k, .slice none 0 0]] w fun e w' => e = .returned (.int .i64 m) ∧ ∃ mo' L', BookAt w' bb mo' L' s ∧ Hid (plainB L' = T') ∧ (∀ m, mo' = some m → mo = some m ∨ w.heap.size ≤ m) ∧ Fr (fun g => g = bb ∨ mo = some g) w w' := by
  refine (bookPut_any bb mo L s p v k none 0 [] (fun _ => True) w h Rd.nil hp hv (by simp)).mono ?_
  rintro e w' ⟨rfl, hto⟩
  rw [hT.out, hm] at hto ⊢
  obtain ⟨mo', L', h1, h2, h3⟩ := hto.at_
  exact ⟨rfl, mo', L', h1, h2, h3, hto.fr⟩
set_option maxRecDepth 100000 in
set_option maxHeartbeats 1000000 in
theorem lives22_any (w : World) : Calls Try.prog 12 #[] w fun e w' => e = .returned (.bool true) ∧ Below w.heap.size w w' := by
  go_enter Try.func12, Try.ntmps12
  go_wp2_with fail
  refine (bookNew_any w).mono ?_
  rintro e w1 ⟨bb, rfl, hB1, hbb, hb1⟩
  have hba : Below w1.heap.size w1 (w1.alloc (.cells #[.string ⟨#[97]⟩, .int .u64 1048577, .int .i64 2, .slice none 0 0] 28)) := (Below.refl _ _).alloc (Nat.le_refl _) _
  have z2 := Blk.new w1 28 #[.string ⟨#[97]⟩, .int .u64 1048577, .int .i64 2, .slice none 0 0]
  have HB2 := Lib.hid (hB1.below hba)
  have hw2 := hb1.trans (hba.mono hb1.size)
  have hL0 : Hid (plainB ([] : List (List UInt8 × EV)) = []) := rfl
  obtain ⟨xb, hxb⟩ : ∃ xb, xb = w1.heap.size := ⟨_, rfl⟩
  clear hB1 hb1
  go_upto_region 3 with (fail)
  generalize w1.alloc (.cells #[.string ⟨#[97]⟩, .int .u64 1048577, .int .i64 2, .slice none 0 0] 28) = w2 at *
  rw [← hxb] at z2 ⊢
  clear hxb hba
  have q0 := z2.cell 0
  have q1 := z2.cell 1
  have q2 := z2.cell 2
  have q3 := z2.cell 3
  simp only [List.getElem?_toArray, List.getElem?_cons_zero, List.getElem?_cons_succ] at q0 q1 q2 q3
  go_wp2_with fail
  refine (put_step [97] 1048577 2 HB2.out hL0 exB1 (by decide) (by decide)).mono ?_
  rintro e w3 ⟨rfl, mo3, L3, hB3, hL3, hmo3, hfr3⟩
  have z3 := z2.fr hfr3 (HB2.out.notB z2 (by decide))
  have hw3 := hw2.trans (hfr3.below (B := w.heap.size) hw2.size (fun k hk e => by
    rcases e with e | e
    · omega
    · cases e))
  have hmo3' : ∀ m, mo3 = some m → w.heap.size ≤ m := fun m e => by
    rcases hmo3 m e with e | e
    · cases e
    · have := hw2.size; omega
  have HB3 := Lib.hid hB3
  clear q0 q1 q2 q3 z2 hfr3 hB3 hmo3 HB2
  have q0 := z3.cell 0
  have q1 := z3.cell 1
  have q2 := z3.cell 2
  have q3 := z3.cell 3
  simp only [List.getElem?_toArray, List.getElem?_cons_zero, List.getElem?_cons_succ] at q0 q1 q2 q3
  go_wp2_with fail
  refine (put_step [97] 1048577 2 HB3.out hL3 exB2 (by decide) (by decide)).mono ?_
  rintro e w4 ⟨rfl, mo4, L4, hB4, hL4, hmo4, hfr4⟩
  have hw4 := hw3.trans (hfr4.below (B := w.heap.size) hw3.size (fun k hk e => by
    rcases e with e | e
    · omega
    · have := hmo3' _ e; omega))
  have hlen : L4.length = 1 := by rw [← plainB_len, hL4.out]; rfl
  have HG := Lib.hid (bookGet_any bb mo4 L4 0 [98] w4 hB4 (by decide))
  have hgv : Hid ((gotE L4 [98]).v = 0) := Lib.hid (by
    have := get_plainB L4 [98]
    rw [hL4.out] at this
    rcases hg : getR L4 [98] with _ | o
    · unfold gotE; rw [hg]; rfl
    · rw [hg, show getR exBk [98] = none by decide] at this; cases this)
  have HB4 := Lib.hid hB4
  clear q0 q1 q2 q3 z3 hfr4 hB4 hmo4 HB3 hL4
  go_wp2_with fail
  refine (bookLen_any bb mo4 L4 0 w4 HB4.out).mono ?_
  rintro e w5 ⟨rfl, rfl⟩
  rw [hlen]
  go_wp2_with fail
  refine HG.out.mono ?_
  rintro e w6 ⟨q, v, k, A, c, l, rfl, hq, ho, hb6⟩
  obtain rfl : v = 0 := hq.out.2.1.trans hgv.out
  have hfd := fun W => (show (Instr.field 28 (.agg #[.string q, .int .u64 0, .int .i64 k, .slice A l.length c]) 1).run Try.prog W = .ok (.int .u64 0) W by kernel_rfl)
  have hw6 := hw4.trans (hb6.mono hw4.size)
  clear hq ho HG hgv
  go_wp2_with fail
  go_ret
  exact ⟨rfl, hw6⟩
end Go.Proofs.Ytdnljmncdbcgeaa

/- BookFull is true for every input: where there are as many entries as may be, an entry of nothing goes for another one, that of the least version; if there is none the book is full. No condition beyond the row's own. -/
namespace Go.Proofs.Ytdnljmncdbcgeaa
open Go.RowKit Go.Maps

theorem EsOwn.esr {w : World} {base : Nat} {A : Option Addr} {c : Nat} {M : List EV} (h : EsOwn w base A c M) (hl : M.length ≤ 1000000) : EsR w A M :=
  h.row.esr (fun x hx => by
    obtain ⟨A', c', e, h2, h3, _⟩ := (h.byt x hx).form
    injection e with e1 e2 e3
    subst e1 e3
    exact ⟨(h.byt x hx).rd.mono (fun _ _ _ => trivial), h2, h3⟩) hl
theorem ent_one {w : World} {x : EV} (h : x.ok w (fun b => b < w.heap.size)) : Ents (w.alloc (.cells #[.string x.p, .int .u64 x.v, .int .i64 x.k, .slice x.x.A x.x.l.length x.x.c] 28)) (fun b => b < w.heap.size + 1) (some ⟨w.heap.size, 0, none⟩) [x] := by
  refine ⟨(Rd.lit (w := w) (t := 28) (size := 4) (n := 1) (xs := [x].flatMap EV.cells) rfl rfl rfl).mono (fun b hb hz => ?_), ?_, by simp⟩
  · simpa using hb
  · intro y hy
    rw [List.mem_singleton.1 hy]
    exact (h.mono (fun b hb hz => by omega)).below ((Below.refl _ _).alloc (Nat.le_refl _) _)

set_option maxRecDepth 100000 in
set_option maxHeartbeats 2000000 in
theorem bookFull_any (A : Option Addr) (c : Nat) (l : List EV) (x : EV) (w : World) (h : Ents w (fun b => b < w.heap.size) A l) (hx : x.ok w (fun b => b < w.heap.size)) :
    Calls Try.prog 3 #[.slice A l.length c, .agg #[.string x.p, .int .u64 x.v, .int .i64 x.k, .slice x.x.A x.x.l.length x.x.c]] w fun e w' => e = .returned (.bool true) ∧ Below w.heap.size w w' := by
  have hw0 : Below w.heap.size w (w.alloc (.cells #[.string x.p, .int .u64 x.v, .int .i64 x.k, .slice x.x.A x.x.l.length x.x.c] 28)) := (by repeat (first | exact Below.refl _ _ | refine Below.alloc ?_ (by simp) _ | refine Below.setCell ?_ (by simp) _ | refine Below.drew ?_))
  have x0 := Blk.new w 28 #[.string x.p, .int .u64 x.v, .int .i64 x.k, .slice x.x.A x.x.l.length x.x.c]
  have HA := Lib.hid (h.below hw0)
  have HXO := Lib.hid ((hx.below hw0).mono (Z' := fun b => b < w.heap.size) (fun b _ hz => hz))
  have hll := h.len
  clear h hx
  rcases hli : lightE l with _ | _
  · have HL := Lib.hid (lightE_any A c l _ _ HA.out)
    rw [hli] at HL
    go_enter Try.func3, Try.ntmps3
    go_wp2_with fail
    refine HL.out.mono ?_
    rintro e w1 ⟨rfl, hb1⟩
    have hw1 := hw0.trans (hb1.mono hw0.size)
    clear x0 HA HXO HL hb1
    go_wp2_with fail
    refine (lives22_any _).mono ?_
    rintro e w9 ⟨rfl, hb9⟩
    go_wp2_with fail
    go_ret
    exact ⟨rfl, hw1.trans (hb9.mono hw1.size)⟩
  · have HL := Lib.hid (lightE_any A c l _ _ HA.out)
    rw [hli] at HL
    have hla := lightE_all hli
    go_enter Try.func3, Try.ntmps3
    go_wp2_with fail
    refine HL.out.mono ?_
    rintro e w1 ⟨rfl, hb1⟩
    have hw1 := hw0.trans (hb1.mono hw0.size)
    have x1 := x0.below hb1
    have HA1 := Lib.hid (HA.out.below hb1)
    have HX1 := Lib.hid ((HXO.out.below hb1).mono (Z' := fun b => b < w1.heap.size) (fun b _ hz => Nat.lt_of_lt_of_le hz hw1.size))
    have HL1 := Lib.hid (lightE_any _ 1 [x] _ _ (ent_one HX1.out))
    have hba : Below w1.heap.size w1 (w1.alloc (.cells #[.string x.p, .int .u64 x.v, .int .i64 x.k, .slice x.x.A x.x.l.length x.x.c] 28)) := (Below.refl _ _).alloc (Nat.le_refl _) _
    have hw1a := hw1.trans (hba.mono hw1.size)
    have x1a := x1.below hba
    have HA1a := Lib.hid (HA1.out.below hba)
    have HX1a := Lib.hid (HX1.out.below hba)
    have q0 := x1.cell 0
    have q1 := x1.cell 1
    have q2 := x1.cell 2
    have q3 := x1.cell 3
    simp only [List.getElem?_toArray, List.getElem?_cons_zero, List.getElem?_cons_succ] at q0 q1 q2 q3
    clear x0 HA HXO HL hb1 hba
    rcases hlx : lightE [x] with _ | _
    · rw [hlx] at HL1
      go_wp2_with fail
      refine HL1.out.mono ?_
      rintro e w2 ⟨rfl, hb2⟩
      have hw2 := hw1a.trans (hb2.mono hw1a.size)
      clear q0 q1 q2 q3 x1 x1a HA1 HX1 HA1a HX1a HL1
      go_wp2_with fail
      refine (lives22_any _).mono ?_
      rintro e w9 ⟨rfl, hb9⟩
      go_wp2_with fail
      go_ret
      exact ⟨rfl, hw2.trans (hb9.mono hw2.size)⟩
    · rw [hlx] at HL1
      obtain ⟨hxp, hxd⟩ := (lightE_all hlx).2 x (by simp)
      by_cases hl270 : l.length ≤ 270
      · have hd : decide ((270 : Int) < (l.length : Int)) = false := decide_eq_false (by omega)
        go_wp2_with fail
        refine HL1.out.mono ?_
        rintro e w2 ⟨rfl, hb2⟩
        have hw2 := hw1a.trans (hb2.mono hw1a.size)
        have x2 := x1a.below hb2
        have HA2 := Lib.hid (HA1a.out.below hb2)
        have HX2 := Lib.hid (HX1a.out.below hb2)
        have HPL := Lib.hid (plays22_any A c l _ w2 HA2.out hla)
        clear q0 q1 q2 q3 x1 x1a HA1 HX1 HA1a HX1a HL1 hb2
        go_wp2_with fail
        refine HPL.out.mono ?_
        rintro e w3 ⟨bb, mo, L, B, d, M, rfl, hP, hbb, hmo, hb3⟩
        have hw3 := hw2.trans (hb3.mono hw2.size)
        have x3 := x2.below hb3
        have HX3 := Lib.hid (HX2.out.below hb3)
        have hba : Below w3.heap.size w3 (w3.alloc (.cells #[.int .u64 0, .slice B M.length d] 33)) := (Below.refl _ _).alloc (Nat.le_refl _) _
        have y4 := Blk.new w3 33 #[.int .u64 0, .slice B M.length d]
        have x4 := x3.below hba
        have hw4 := hw3.trans (hba.mono hw3.size)
        have HX4 := Lib.hid (HX3.out.below hba)
        have HP4 := Lib.hid (hP.below hba)
        clear HPL hP hb3 x2 x3 HX2 HX3 HA2
        go_upto_region 4 with (fail)
        generalize w3.alloc (.cells #[.int .u64 0, .slice B M.length d] 33) = w4 at *
        have p0 := y4.cell 0
        have p1 := y4.cell 1
        simp only [List.getElem?_toArray, List.getElem?_cons_zero, List.getElem?_cons_succ] at p0 p1
        have q0 := x4.cell 0
        have q1 := x4.cell 1
        have q2 := x4.cell 2
        have q3 := x4.cell 3
        simp only [List.getElem?_toArray, List.getElem?_cons_zero, List.getElem?_cons_succ] at q0 q1 q2 q3
        generalize hT : playB [] (l.map EV.pl) = T at *
        have HE := Lib.hid (refPut22_any B d M 0 x w4 HP4.out.es (HX4.out.x.mono (fun _ _ _ => trivial)) (by omega) HX4.out.v (by omega) (by rw [HP4.out.same.out]; exact HP4.out.ok))
        rw [HP4.out.same.out] at HE
        have hvx := HX4.out.v
        have HBP := Lib.hid (fun w (hB : BookAt w bb mo L 0) (hy : By w (fun _ => True) x.x.A x.x.l) => bookPut_any bb mo L 0 (tl x.p) x.v x.k x.x.A x.x.c x.x.l _ w hB hy (by rw [tl_len]; omega) hvx (by omega))
        rw [HP4.out.plain.out] at HBP
        obtain ⟨R, hR⟩ : ∃ R, R = putP T (tl x.p) x.ep := ⟨_, rfl⟩
        rw [show putP T (tl x.p) (x.v, x.k, x.x.l) = R from hR.symm] at HBP
        rw [← hR] at HE
        obtain ⟨T', E⟩ := R
        dsimp only at HE HBP
        clear hba hR
        go_wp2_with fail
        refine HE.out.mono ?_
        rintro e w6 ⟨⟨B4, d4, M4, rfl, hM4, hE4⟩, hb6⟩
        have hw6 := hw4.trans (hb6.mono hw4.size)
        have hba : Below w6.heap.size w6 (w6.alloc (.cells #[.int .u64 0, .slice B4 M4.length d4] 33)) := (Below.refl _ _).alloc (Nat.le_refl _) _
        have y8 := Blk.new w6 33 #[.int .u64 0, .slice B4 M4.length d4]
        have x7 := (x4.below hb6).below hba
        have hw8 := hw6.trans (hba.mono hw6.size)
        have HB8 := Lib.hid ((HP4.out.book.below hb6).below hba)
        have HX8 := Lib.hid (((HX4.out.x.below hb6).below hba).1.mono (fun _ _ _ => trivial))
        have HM4 := Lib.hid hM4
        have HE8 := Lib.hid (hE4.below hba)
        clear hM4 hE4 hb6 HE HX4 HP4 p0 p1 q0 q1 q2 q3 y4 x4
        go_upto_region 7 with (fail)
        generalize w6.alloc (.cells #[.int .u64 0, .slice B4 M4.length d4] 33) = w8 at *
        clear hba
        have n1 := HB8.out.notB x7 (by decide)
        have n2 := HB8.out.notB y8 (by decide)
        refine wp_region_p [(0, true), (1, true), (3, true), (2, false), (4, true), (5, true), (6, true), (8, true), (9, true), (7, false), (10, false), (11, true), (12, true), (13, true), (14, false), (15, true), (16, true), (17, true), (18, false), (19, true)] (fun W => Fr (fun g => g = bb ∨ mo = some g) w8 W) (by kernel_rfl) (by kernel_rfl) ?_
        simp only [List.map_cons, List.map_nil, List.filterMap_cons, List.filterMap_nil, List.getElem?_cons_zero, List.getElem?_cons_succ, List.length_cons, List.length_nil, Nat.zero_add, Nat.reduceAdd, List.drop_succ_cons, List.drop_zero]
        refine mx_move _ (by kernel_rfl) rfl ⟨_, (by ((try simp [go_sem]); (try rfl); done)), _, (by (simp only [Act.put, List.setIfInBounds_toArray, List.set_cons_zero, List.set_cons_succ]; rfl)), ?_⟩
        refine mx_val (by kernel_rfl) ⟨_, (by (intro w' hC; (have q0 := (x7.fr hC n1).cell 0; have q1 := (x7.fr hC n1).cell 1; have q2 := (x7.fr hC n1).cell 2; have q3 := (x7.fr hC n1).cell 3; simp only [List.getElem?_toArray, List.getElem?_cons_zero, List.getElem?_cons_succ] at q0 q1 q2 q3); clear hC; (try go_simp); (try with_reducible rfl); done)), _, (by (simp only [Act.put, List.setIfInBounds_toArray, List.set_cons_zero, List.set_cons_succ]; rfl)), ?_⟩
        refine mx_move _ (by kernel_rfl) rfl ⟨_, (by ((try simp [go_sem]); (try rfl); done)), _, (by (simp only [Act.put, List.setIfInBounds_toArray, List.set_cons_zero, List.set_cons_succ]; rfl)), ?_⟩
        refine mx_call ((Fr.refl _ _).drew) (by kernel_rfl) ?_ (HBP.out _ (HB8.out.below (Below.refl _ _).drew) (HX8.out.drew)) ?_
        · (go_simp; done)
        rintro e wa ⟨rfl, hto⟩
        obtain ⟨⟨mo', L', hBa, hLa, hmoa⟩, hfra⟩ := hto
        have hca : Fr (fun g => g = bb ∨ mo = some g) w8 wa := ((Fr.refl (fun g => g = bb ∨ mo = some g) w8).drew).trans hfra (fun _ _ h => h)
        have HEa := Lib.hid ((HE8.out.below (Below.refl _ _).drew).bookTo (HB8.out.below (Below.refl _ _).drew) hfra)
        have HBa := Lib.hid hBa
        have HEN := Lib.hid (bookEntries_any bb mo' L' 0 wa hBa)
        refine ⟨_, rfl, _, (by (simp only [Act.put, List.setIfInBounds_toArray, List.set_cons_zero, List.set_cons_succ]; rfl)), ?_⟩
        refine mx_val (by kernel_rfl) ⟨_, (by (intro w' hC; clear hC; (try go_simp); (try with_reducible rfl); done)), _, (by (simp only [Act.put, List.setIfInBounds_toArray, List.set_cons_zero, List.set_cons_succ]; rfl)), ?_⟩
        refine mx_move _ (by kernel_rfl) rfl ⟨_, (by ((try simp [go_sem]); (try rfl); done)), _, (by (simp only [Act.put, List.setIfInBounds_toArray, List.set_cons_zero, List.set_cons_succ]; rfl)), ?_⟩
        refine mx_move _ (by kernel_rfl) rfl ⟨_, (by ((try simp [go_sem]); (try rfl); done)), _, (by (simp only [Act.put, List.setIfInBounds_toArray, List.set_cons_zero, List.set_cons_succ]; rfl)), ?_⟩
        refine mx_val (by kernel_rfl) ⟨_, (by (intro w' hC; clear hC; (try go_simp); (try with_reducible rfl); done)), _, (by (simp only [Act.put, List.setIfInBounds_toArray, List.set_cons_zero, List.set_cons_succ]; rfl)), ?_⟩
        refine mx_val (by kernel_rfl) ⟨_, (by (intro w' hC; (have q := (y8.fr hC n2).cell 1; simp only [List.getElem?_toArray, List.getElem?_cons_zero, List.getElem?_cons_succ] at q); clear hC; (try go_simp); (try with_reducible rfl); done)), _, (by (simp only [Act.put, List.setIfInBounds_toArray, List.set_cons_zero, List.set_cons_succ]; rfl)), ?_⟩
        refine mx_call (hca) (by kernel_rfl) ?_ (HEN.out) ?_
        · (go_simp; done)
        rintro e wb ⟨A5, c5, M5, rfl, hM5, hO5, hb5⟩
        have hcb : Fr (fun g => g = bb ∨ mo = some g) w8 wb := hca.then_below hb5
        have hlb := hBa.len
        have hM5l : M5.length ≤ 256 := by
          have := congrArg List.length (hM5.out.trans hLa.out)
          have h2 := congrArg List.length hLa.out
          rw [List.length_map] at this
          rw [plainB_len] at h2
          omega
        have HSM := Lib.hid (refSame22_any A5 B4 c5 d4 M5 M4 wb (hO5.esr (by omega)) (HEa.out.below hb5))
        rw [hM5.out, hLa.out, HM4.out.out, show ∀ (z : List (List UInt8 × EP)), decide (z = z) = true from fun z => by simp] at HSM
        have HBb := Lib.hid (hBa.below hb5)
        refine ⟨_, rfl, _, (by (simp only [Act.put, List.setIfInBounds_toArray, List.set_cons_zero, List.set_cons_succ]; rfl)), ?_⟩
        refine mx_call (hcb) (by kernel_rfl) ?_ (HSM.out) ?_
        · (go_simp; done)
        rintro e wc ⟨rfl, hb6⟩
        have hcc : Fr (fun g => g = bb ∨ mo = some g) w8 wc := hcb.then_below hb6
        have HBc := Lib.hid (HBb.out.below hb6)
        have hdl : decide ((L'.length : Int) ≤ 256) = true := decide_eq_true (by omega)
        clear hBa hM5 hO5 hLa HEN HEa
        refine ⟨_, rfl, _, (by (simp only [Act.put, List.setIfInBounds_toArray, List.set_cons_zero, List.set_cons_succ]; rfl)), ?_⟩
        refine mx_val (by kernel_rfl) ⟨_, (by (intro w' hC; clear hC; (try go_simp); (try with_reducible rfl); done)), _, (by (simp only [Act.put, List.setIfInBounds_toArray, List.set_cons_zero, List.set_cons_succ]; rfl)), ?_⟩
        refine mx_move _ (by kernel_rfl) rfl ⟨_, (by ((try simp [go_sem]); (try rfl); done)), _, (by (simp only [Act.put, List.setIfInBounds_toArray, List.set_cons_zero, List.set_cons_succ]; rfl)), ?_⟩
        refine mx_move _ (by kernel_rfl) rfl ⟨_, (by ((try simp [go_sem]); (try rfl); done)), _, (by (simp only [Act.put, List.setIfInBounds_toArray, List.set_cons_zero, List.set_cons_succ]; rfl)), ?_⟩
        refine mx_call (hcc) (by kernel_rfl) ?_ (bookLen_any bb mo' L' 0 wc HBc.out) ?_
        · (go_simp; done)
        rintro e wd ⟨rfl, rfl⟩
        refine ⟨_, rfl, _, (by (simp only [Act.put, List.setIfInBounds_toArray, List.set_cons_zero, List.set_cons_succ]; rfl)), ?_⟩
        refine mx_val (by kernel_rfl) ⟨_, (by (intro w' hC; clear hC; (try go_simp); (try with_reducible rfl); done)), _, (by (simp only [Act.put, List.setIfInBounds_toArray, List.set_cons_zero, List.set_cons_succ]; rfl)), ?_⟩
        refine mx_val (by kernel_rfl) ⟨_, (by (intro w' hC; clear hC; (try go_simp); (try with_reducible rfl); done)), _, (by (simp only [Act.put, List.setIfInBounds_toArray, List.set_cons_zero, List.set_cons_succ]; rfl)), ?_⟩
        refine mx_move _ (by kernel_rfl) rfl ⟨_, (by ((try simp [go_sem]); (try rfl); done)), _, (by (simp only [Act.put, List.setIfInBounds_toArray, List.set_cons_zero, List.set_cons_succ]; rfl)), ?_⟩
        refine mx_call (hcc) (by kernel_rfl) ?_ (lives22_any wc) ?_
        · (go_simp; done)
        rintro e we ⟨rfl, hb7⟩
        have hce : Fr (fun g => g = bb ∨ mo = some g) w8 we := hcc.then_below hb7
        refine ⟨_, rfl, _, (by (simp only [Act.put, List.setIfInBounds_toArray, List.set_cons_zero, List.set_cons_succ]; rfl)), ?_⟩
        refine mx_val (by kernel_rfl) ⟨_, (by (intro w' hC; clear hC; (try go_simp); (try with_reducible rfl); done)), _, (by (simp only [Act.put, List.setIfInBounds_toArray, List.set_cons_zero, List.set_cons_succ]; rfl)), ?_⟩
        refine mx_end hce ?_
        go_wp2_with fail
        go_ret
        refine ⟨rfl, hw8.trans (hce.below (B := w.heap.size) hw8.size (fun k hk e => ?_))⟩
        have h2 := hw2.size
        rcases e with e | e
        · omega
        · have := hmo _ e; omega
      · have hd : decide ((270 : Int) < (l.length : Int)) = true := decide_eq_true (by omega)
        go_wp2_with fail
        refine HL1.out.mono ?_
        rintro e w2 ⟨rfl, hb2⟩
        have hw2 := hw1a.trans (hb2.mono hw1a.size)
        clear q0 q1 q2 q3 x1 x1a HA1 HX1 HA1a HX1a HL1
        go_wp2_with fail
        refine (lives22_any _).mono ?_
        rintro e w9 ⟨rfl, hb9⟩
        go_wp2_with fail
        go_ret
        exact ⟨rfl, hw2.trans (hb9.mono hw2.size)⟩

end Go.Proofs.Ytdnljmncdbcgeaa

/- BookReads is true for every input: the book of any bytes, or why there is none, is the document's; it has just these bytes. No condition beyond the row's own. -/
namespace Go.Proofs.Ytdnljmncdbcgeaa
open Go.RowKit Go.Maps

theorem EsB.bookTo {w w' : World} {A : Option Addr} {M : List EV} {bb : Nat} {mo : Option Nat} {L : List (List UInt8 × EV)} {s : Int} (h : EsB w A M) (hb : BookAt w bb mo L s) (k : Fr (fun g => g = bb) w w') : EsB w' A M := by
  have hin : ∀ {A : Option Addr} {n sz : Nat} {xs : List Value}, Rd w (fun _ => True) sz A n xs → (0 < n * sz → ∃ u, xs[0]? = some u ∧ u ≠ .int .u64 s ∧ u ≠ .map mo) → Rd w (fun b => ¬ (b = bb)) sz A n xs := fun {A n sz xs} h1 h2 => by
    refine ⟨h1.1, fun hn => ?_⟩
    obtain ⟨b, off, e, hz, hlt, hc⟩ := h1.2 hn
    obtain ⟨u, hu, hu1, hu2⟩ := h2 hn
    refine ⟨b, off, e, ?_, hlt, hc⟩
    have h3 := hc 0 u hu
    rw [Nat.add_zero] at h3
    rintro rfl
    rw [hb.blk.cell] at h3
    rcases off with _ | _ | off
    · simp at h3; exact hu1 h3.symm
    · simp at h3; exact hu2 h3.symm
    · simp at h3
  refine ⟨((hin h.rd (fun hn => ?_)).fr k (fun b _ hz e => hz e)).mono (fun _ _ _ => trivial), fun x hx => ((hin (h.ok x hx) (fun hn => ?_)).fr k (fun b _ hz e => hz e)).mono (fun _ _ _ => trivial), h.len⟩
  · rcases M with _ | ⟨x, M⟩
    · simp at hn
    · exact ⟨.string x.p, rfl, by simp, by simp⟩
  · rcases hl : x.x.l with _ | ⟨y, l⟩
    · rw [hl] at hn; simp at hn
    · exact ⟨bv y, by simp, by simp [bv], by simp [bv]⟩
theorem readB_session (l : List UInt8) : (readB l).1 ≤ 1099511627776 := readS_le l 0 1099511627776
set_option maxRecDepth 100000 in
theorem bookReads_far (x : BV) (w : World) (hl : 6000 < x.l.length) :
    Calls Try.prog 9 #[.slice x.A x.l.length x.c] w fun e w' => e = .returned (.bool true) ∧ Below w.heap.size w w' := by
  go_enter Try.func9, Try.ntmps9
  go_wp2_with fail
  refine (lives22_any _).mono ?_
  rintro e w1 ⟨rfl, hb1⟩
  go_wp2_with fail
  go_ret
  exact ⟨rfl, hb1⟩

set_option maxRecDepth 100000 in
set_option maxHeartbeats 4000000 in
theorem bookReads_near (x : BV) (w : World) (hx : x.ok w (fun b => b < w.heap.size)) (hl : ¬ 6000 < x.l.length) :
    Calls Try.prog 9 #[.slice x.A x.l.length x.c] w fun e w' => e = .returned (.bool true) ∧ Below w.heap.size w w' := by
  obtain ⟨xA, xc, xl⟩ := x
  obtain ⟨hby, hlc, hcm⟩ := hx
  dsimp only at *
  have HY := Lib.hid hby
  have hld : decide ((6000 : Int) < (xl.length : Int)) = false := decide_eq_false (by omega)
  have hses := readB_session xl
  have hRD := bookRead_any xA xc xl w hby hlc hcm (by omega)
  have hRR := fun W (hW : Below w.heap.size w W) => refRead22_any xA xc xl W ((hby.below hW).mono (fun b hb h => by have := hW.size; omega)) hlc hcm (by omega)
  unfold BookRd at hRD
  unfold RefRd at hRR
  obtain ⟨R, hR⟩ : ∃ R, R = readB xl := ⟨_, rfl⟩
  rw [← hR] at hRD hRR hses
  obtain ⟨S0, T, K⟩ := R
  dsimp only at hRD hRR hses
  obtain ⟨s, hs⟩ : ∃ s, s = (S0 : Int) := ⟨_, rfl⟩
  rw [← hs] at hRD hRR
  have hs0 : 0 ≤ s ∧ s ≤ 1099511627776 := by omega
  have HRD := Lib.hid hRD
  have HRR := Lib.hid hRR
  clear hRD hRR hR hs hses hby
  by_cases hK : K = 0
  · subst hK
    go_enter Try.func9, Try.ntmps9
    go_wp2_with fail
    refine HRD.out.mono ?_
    rintro e w2 ⟨hrd, hw2⟩
    rcases hrd with ⟨_, bb, mo, LL, rfl, hB, hL, hbb, hmo⟩ | ⟨h, _⟩
    · have HB := Lib.hid hB
      have HRW := Lib.hid (HRR.out w2 hw2)
      have HPL := Lib.hid hL.out
      clear HRD HRR hB hL
      go_wp2_with fail
      refine HRW.out.mono ?_
      rintro e w3 ⟨hrd, hb3⟩
      rcases hrd with ⟨_, B, d, M, rfl, hE, hM⟩ | ⟨h, _⟩
      · have hw3 := hw2.trans (hb3.mono hw2.size)
        have HMP := Lib.hid hM.out
        have hba : Below w3.heap.size w3 (w3.alloc (.cells #[.int .u64 s, .slice B M.length d] 33)) := (Below.refl _ _).alloc (Nat.le_refl _) _
        have y3 := Blk.new w3 33 #[.int .u64 s, .slice B M.length d]
        have HB4 := Lib.hid ((HB.out.below hb3).below hba)
        have HE4 := Lib.hid (hE.below hba)
        have hw4 := hw3.trans (hba.mono hw3.size)
        have HNX := Lib.hid (bookNext_any bb mo LL s _ HB4.out (by omega))
        clear HRW HB hE hM hb3
        go_upto_region 5 with (fail)
        generalize w3.alloc (.cells #[.int .u64 s, .slice B M.length d] 33) = w4 at *
        clear hba
        by_cases hse : 1099511627776 ≤ s
        · rw [if_pos hse, if_pos hse] at HNX
          go_wp2_with fail
          refine HNX.out.mono ?_
          rintro e w5 ⟨rfl, hB5, hfr⟩
          have HB5 := Lib.hid hB5
          have HE5 := Lib.hid (HE4.out.bookTo HB4.out hfr)
          have y4 := y3.fr hfr (fun e => HB4.out.notB y3 (by decide) (.inl e))
          have hw5 : Below w.heap.size w w5 := hw4.trans (hfr.below (B := w.heap.size) hw4.size (fun k hk e => by omega))
          have hsd : decide (s < 1099511627776) = false := decide_eq_false (by omega)
          clear HNX hB5 HB4 HE4 hfr y3
          go_upto_region 10 with (fail)
          refine wp_region_p [(0, true), (2, true), (3, true), (1, false), (4, false), (5, true), (6, true), (7, true), (8, true), (9, true), (10, true), (11, true), (12, true), (13, true), (14, true), (15, true), (16, true), (17, true), (19, true), (20, true), (21, true), (18, false), (22, true), (23, true), (24, true), (25, true), (26, false), (27, true)] (fun W => Below w5.heap.size w5 W) (by kernel_rfl) (by kernel_rfl) ?_
          simp only [List.map_cons, List.map_nil, List.filterMap_cons, List.filterMap_nil, List.getElem?_cons_zero, List.getElem?_cons_succ, List.length_cons, List.length_nil, Nat.zero_add, Nat.reduceAdd, List.drop_succ_cons, List.drop_zero]
          refine mx_move _ (by kernel_rfl) rfl ⟨_, (by ((try simp [go_sem]); (try rfl); done)), _, (by (simp only [Act.put, List.setIfInBounds_toArray, List.set_cons_zero, List.set_cons_succ]; rfl)), ?_⟩
          refine mx_val (by kernel_rfl) ⟨_, (by (intro w' hC; clear hC; (try go_simp); (try with_reducible rfl); done)), _, (by (simp only [Act.put, List.setIfInBounds_toArray, List.set_cons_zero, List.set_cons_succ]; rfl)), ?_⟩
          refine mx_val (by kernel_rfl) ⟨_, (by (intro w' hC; (have q0 := (y4.below hC).cell 0; have q1 := (y4.below hC).cell 1; simp only [List.getElem?_toArray, List.getElem?_cons_zero, List.getElem?_cons_succ] at q0 q1); clear hC; (try go_simp); (try with_reducible rfl); done)), _, (by (simp only [Act.put, List.setIfInBounds_toArray, List.set_cons_zero, List.set_cons_succ]; rfl)), ?_⟩
          refine mx_call ((Below.refl _ _).drew) (by kernel_rfl) ?_ (bookEntries_any bb mo LL s w5.drew (HB5.out.below (Below.refl _ _).drew)) ?_
          · (go_simp; done)
          rintro e wb ⟨A7, c7, M7, rfl, hM7, hO7, hb7⟩
          have hcb : Below w5.heap.size w5 wb := ((Below.refl _ _).drew).trans hb7
          have hM7l : M7.length ≤ 256 := by
            have h1 := congrArg List.length hM7.out
            rw [List.length_map, plainB_len] at h1
            have := HB5.out.len
            omega
          have HSM := Lib.hid (refSame22B_any A7 B c7 d M7 M wb (hO7.esr (by omega)) (HE5.out.below hcb))
          rw [hM7.out, HPL.out, HMP.out, show ∀ (z : List (List UInt8 × EP)), decide (z = z) = true from fun z => by simp] at HSM
          clear hM7 hO7
          refine ⟨_, rfl, _, (by (simp only [Act.put, List.setIfInBounds_toArray, List.set_cons_zero, List.set_cons_succ]; rfl)), ?_⟩
          refine mx_call (hcb) (by kernel_rfl) ?_ (HSM.out) ?_
          · (go_simp; done)
          rintro e wc ⟨rfl, hb8⟩
          have hcc : Below w5.heap.size w5 wc := hcb.trans (hb8.mono hcb.size)
          clear HSM
          refine ⟨_, rfl, _, (by (simp only [Act.put, List.setIfInBounds_toArray, List.set_cons_zero, List.set_cons_succ]; rfl)), ?_⟩
          refine mx_move _ (by kernel_rfl) rfl ⟨_, (by ((try simp [go_sem]); (try rfl); done)), _, (by (simp only [Act.put, List.setIfInBounds_toArray, List.set_cons_zero, List.set_cons_succ]; rfl)), ?_⟩
          refine mx_move _ (by kernel_rfl) rfl ⟨_, (by ((try simp [go_sem]); (try rfl); done)), _, (by (simp only [Act.put, List.setIfInBounds_toArray, List.set_cons_zero, List.set_cons_succ]; rfl)), ?_⟩
          refine mx_val (by kernel_rfl) ⟨_, (by (intro w' hC; clear hC; (try go_simp); (try with_reducible rfl); done)), _, (by (simp only [Act.put, List.setIfInBounds_toArray, List.set_cons_zero, List.set_cons_succ]; rfl)), ?_⟩
          refine mx_val (by kernel_rfl) ⟨_, (by (intro w' hC; clear hC; (try go_simp); (try with_reducible rfl); done)), _, (by (simp only [Act.put, List.setIfInBounds_toArray, List.set_cons_zero, List.set_cons_succ]; rfl)), ?_⟩
          refine mx_val (by kernel_rfl) ⟨_, (by (intro w' hC; (have q0 := (y4.below hC).cell 0; have q1 := (y4.below hC).cell 1; simp only [List.getElem?_toArray, List.getElem?_cons_zero, List.getElem?_cons_succ] at q0 q1); clear hC; (try go_simp); (try with_reducible rfl); done)), _, (by (simp only [Act.put, List.setIfInBounds_toArray, List.set_cons_zero, List.set_cons_succ]; rfl)), ?_⟩
          refine mx_val (by kernel_rfl) ⟨_, (by (intro w' hC; clear hC; (try go_simp); (try with_reducible rfl); done)), _, (by (simp only [Act.put, List.setIfInBounds_toArray, List.set_cons_zero, List.set_cons_succ]; rfl)), ?_⟩
          refine mx_val (by kernel_rfl) ⟨_, (by (intro w' hC; clear hC; (try go_simp); (try with_reducible rfl); done)), _, (by (simp only [Act.put, List.setIfInBounds_toArray, List.set_cons_zero, List.set_cons_succ]; rfl)), ?_⟩
          refine mx_val (by kernel_rfl) ⟨_, (by (intro w' hC; clear hC; (try go_simp); (try with_reducible rfl); done)), _, (by (simp only [Act.put, List.setIfInBounds_toArray, List.set_cons_zero, List.set_cons_succ]; rfl)), ?_⟩
          refine mx_move _ (by kernel_rfl) rfl ⟨_, (by ((try simp [go_sem]); (try rfl); done)), _, (by (simp only [Act.put, List.setIfInBounds_toArray, List.set_cons_zero, List.set_cons_succ]; rfl)), ?_⟩
          refine mx_move _ (by kernel_rfl) rfl ⟨_, (by ((try simp [go_sem]); (try rfl); done)), _, (by (simp only [Act.put, List.setIfInBounds_toArray, List.set_cons_zero, List.set_cons_succ]; rfl)), ?_⟩
          refine mx_val (by kernel_rfl) ⟨_, (by (intro w' hC; clear hC; (try go_simp); (try with_reducible rfl); done)), _, (by (simp only [Act.put, List.setIfInBounds_toArray, List.set_cons_zero, List.set_cons_succ]; rfl)), ?_⟩
          refine mx_move _ (by kernel_rfl) rfl ⟨_, (by ((try simp [go_sem]); (try rfl); done)), _, (by (simp only [Act.put, List.setIfInBounds_toArray, List.set_cons_zero, List.set_cons_succ]; rfl)), ?_⟩
          first | (refine mx_skip (by rfl) ⟨_, (by (simp only [Act.put, List.setIfInBounds_toArray, List.set_cons_zero, List.set_cons_succ]; rfl)), ?_⟩) | (refine mx_move _ (by kernel_rfl) rfl ⟨_, (by ((try simp [go_sem]); (try rfl); done)), _, (by (simp only [Act.put, List.setIfInBounds_toArray, List.set_cons_zero, List.set_cons_succ]; rfl)), ?_⟩)
          first | (refine mx_skip (by rfl) ⟨_, (by (simp only [Act.put, List.setIfInBounds_toArray, List.set_cons_zero, List.set_cons_succ]; rfl)), ?_⟩) | (refine mx_val (by kernel_rfl) ⟨_, (by (intro w' hC; clear hC; (try go_simp); (try with_reducible rfl); done)), _, (by (simp only [Act.put, List.setIfInBounds_toArray, List.set_cons_zero, List.set_cons_succ]; rfl)), ?_⟩)
          first | (refine mx_skip (by rfl) ⟨_, (by (simp only [Act.put, List.setIfInBounds_toArray, List.set_cons_zero, List.set_cons_succ]; rfl)), ?_⟩) | (refine mx_val (by kernel_rfl) ⟨_, (by (intro w' hC; (have q0 := (y4.below hC).cell 0; have q1 := (y4.below hC).cell 1; simp only [List.getElem?_toArray, List.getElem?_cons_zero, List.getElem?_cons_succ] at q0 q1); clear hC; (try go_simp); (try with_reducible rfl); done)), _, (by (simp only [Act.put, List.setIfInBounds_toArray, List.set_cons_zero, List.set_cons_succ]; rfl)), ?_⟩)
          first | (refine mx_skip (by rfl) ⟨_, (by (simp only [Act.put, List.setIfInBounds_toArray, List.set_cons_zero, List.set_cons_succ]; rfl)), ?_⟩) | (refine mx_val (by kernel_rfl) ⟨_, (by (intro w' hC; clear hC; (try go_simp); (try with_reducible rfl); done)), _, (by (simp only [Act.put, List.setIfInBounds_toArray, List.set_cons_zero, List.set_cons_succ]; rfl)), ?_⟩)
          refine mx_idle (hcc) (by rfl) ⟨_, (by (simp only [Act.put, List.setIfInBounds_toArray, List.set_cons_zero, List.set_cons_succ]; rfl)), ?_⟩
          first | (refine mx_skip (by rfl) ⟨_, (by (simp only [Act.put, List.setIfInBounds_toArray, List.set_cons_zero, List.set_cons_succ]; rfl)), ?_⟩) | (refine mx_val (by kernel_rfl) ⟨_, (by (intro w' hC; clear hC; (try go_simp); (try with_reducible rfl); done)), _, (by (simp only [Act.put, List.setIfInBounds_toArray, List.set_cons_zero, List.set_cons_succ]; rfl)), ?_⟩)
          refine mx_val (by kernel_rfl) ⟨_, (by (intro w' hC; clear hC; (try go_simp); (try with_reducible rfl); done)), _, (by (simp only [Act.put, List.setIfInBounds_toArray, List.set_cons_zero, List.set_cons_succ]; rfl)), ?_⟩
          refine mx_val (by kernel_rfl) ⟨_, (by (intro w' hC; clear hC; (try go_simp); (try with_reducible rfl); done)), _, (by (simp only [Act.put, List.setIfInBounds_toArray, List.set_cons_zero, List.set_cons_succ]; rfl)), ?_⟩
          refine mx_move _ (by kernel_rfl) rfl ⟨_, (by ((try simp [go_sem]); (try rfl); done)), _, (by (simp only [Act.put, List.setIfInBounds_toArray, List.set_cons_zero, List.set_cons_succ]; rfl)), ?_⟩
          refine mx_call (hcc) (by kernel_rfl) ?_ (lives22_any wc) ?_
          · (go_simp; done)
          rintro e we ⟨rfl, hb9⟩
          have hce : Below w5.heap.size w5 we := hcc.trans (hb9.mono hcc.size)
          refine ⟨_, rfl, _, (by (simp only [Act.put, List.setIfInBounds_toArray, List.set_cons_zero, List.set_cons_succ]; rfl)), ?_⟩
          refine mx_val (by kernel_rfl) ⟨_, (by (intro w' hC; clear hC; (try go_simp); (try with_reducible rfl); done)), _, (by (simp only [Act.put, List.setIfInBounds_toArray, List.set_cons_zero, List.set_cons_succ]; rfl)), ?_⟩
          refine mx_end hce ?_
          clear hcb hcc hb7 hb8 hb9
          have hw9 := hw5.trans (hce.mono hw5.size)
          go_wp2_with fail
          go_ret
          exact ⟨rfl, hw9⟩
        · rw [if_neg hse, if_neg hse] at HNX
          go_wp2_with fail
          refine HNX.out.mono ?_
          rintro e w5 ⟨rfl, hB5, hfr⟩
          have HB5 := Lib.hid hB5
          have HE5 := Lib.hid (HE4.out.bookTo HB4.out hfr)
          have y4 := y3.fr hfr (fun e => HB4.out.notB y3 (by decide) (.inl e))
          have hw5 : Below w.heap.size w w5 := hw4.trans (hfr.below (B := w.heap.size) hw4.size (fun k hk e => by omega))
          have hsd : decide (s < 1099511627776) = true := decide_eq_true (by omega)
          have hwu := IntWalk.u64_in (s + 1) ⟨by omega, by omega⟩
          clear HNX hB5 HB4 HE4 hfr y3
          go_upto_region 10 with (fail)
          refine wp_region_p [(0, true), (2, true), (3, true), (1, false), (4, false), (5, true), (6, true), (7, true), (8, true), (9, true), (10, true), (11, true), (12, true), (13, true), (14, true), (15, true), (16, true), (17, true), (19, true), (20, true), (21, true), (18, false), (22, true), (23, true), (24, true), (25, true), (26, false), (27, true)] (fun W => Below w5.heap.size w5 W) (by kernel_rfl) (by kernel_rfl) ?_
          simp only [List.map_cons, List.map_nil, List.filterMap_cons, List.filterMap_nil, List.getElem?_cons_zero, List.getElem?_cons_succ, List.length_cons, List.length_nil, Nat.zero_add, Nat.reduceAdd, List.drop_succ_cons, List.drop_zero]
          refine mx_move _ (by kernel_rfl) rfl ⟨_, (by ((try simp [go_sem]); (try rfl); done)), _, (by (simp only [Act.put, List.setIfInBounds_toArray, List.set_cons_zero, List.set_cons_succ]; rfl)), ?_⟩
          refine mx_val (by kernel_rfl) ⟨_, (by (intro w' hC; clear hC; (try go_simp); (try with_reducible rfl); done)), _, (by (simp only [Act.put, List.setIfInBounds_toArray, List.set_cons_zero, List.set_cons_succ]; rfl)), ?_⟩
          refine mx_val (by kernel_rfl) ⟨_, (by (intro w' hC; (have q0 := (y4.below hC).cell 0; have q1 := (y4.below hC).cell 1; simp only [List.getElem?_toArray, List.getElem?_cons_zero, List.getElem?_cons_succ] at q0 q1); clear hC; (try go_simp); (try with_reducible rfl); done)), _, (by (simp only [Act.put, List.setIfInBounds_toArray, List.set_cons_zero, List.set_cons_succ]; rfl)), ?_⟩
          refine mx_call ((Below.refl _ _).drew) (by kernel_rfl) ?_ (bookEntries_any bb mo LL (s + 1) w5.drew (HB5.out.below (Below.refl _ _).drew)) ?_
          · (go_simp; done)
          rintro e wb ⟨A7, c7, M7, rfl, hM7, hO7, hb7⟩
          have hcb : Below w5.heap.size w5 wb := ((Below.refl _ _).drew).trans hb7
          have hM7l : M7.length ≤ 256 := by
            have h1 := congrArg List.length hM7.out
            rw [List.length_map, plainB_len] at h1
            have := HB5.out.len
            omega
          have HSM := Lib.hid (refSame22B_any A7 B c7 d M7 M wb (hO7.esr (by omega)) (HE5.out.below hcb))
          rw [hM7.out, HPL.out, HMP.out, show ∀ (z : List (List UInt8 × EP)), decide (z = z) = true from fun z => by simp] at HSM
          clear hM7 hO7
          refine ⟨_, rfl, _, (by (simp only [Act.put, List.setIfInBounds_toArray, List.set_cons_zero, List.set_cons_succ]; rfl)), ?_⟩
          refine mx_call (hcb) (by kernel_rfl) ?_ (HSM.out) ?_
          · (go_simp; done)
          rintro e wc ⟨rfl, hb8⟩
          have hcc : Below w5.heap.size w5 wc := hcb.trans (hb8.mono hcb.size)
          clear HSM
          refine ⟨_, rfl, _, (by (simp only [Act.put, List.setIfInBounds_toArray, List.set_cons_zero, List.set_cons_succ]; rfl)), ?_⟩
          refine mx_move _ (by kernel_rfl) rfl ⟨_, (by ((try simp [go_sem]); (try rfl); done)), _, (by (simp only [Act.put, List.setIfInBounds_toArray, List.set_cons_zero, List.set_cons_succ]; rfl)), ?_⟩
          refine mx_move _ (by kernel_rfl) rfl ⟨_, (by ((try simp [go_sem]); (try rfl); done)), _, (by (simp only [Act.put, List.setIfInBounds_toArray, List.set_cons_zero, List.set_cons_succ]; rfl)), ?_⟩
          refine mx_val (by kernel_rfl) ⟨_, (by (intro w' hC; clear hC; (try go_simp); (try with_reducible rfl); done)), _, (by (simp only [Act.put, List.setIfInBounds_toArray, List.set_cons_zero, List.set_cons_succ]; rfl)), ?_⟩
          refine mx_val (by kernel_rfl) ⟨_, (by (intro w' hC; clear hC; (try go_simp); (try with_reducible rfl); done)), _, (by (simp only [Act.put, List.setIfInBounds_toArray, List.set_cons_zero, List.set_cons_succ]; rfl)), ?_⟩
          refine mx_val (by kernel_rfl) ⟨_, (by (intro w' hC; (have q0 := (y4.below hC).cell 0; have q1 := (y4.below hC).cell 1; simp only [List.getElem?_toArray, List.getElem?_cons_zero, List.getElem?_cons_succ] at q0 q1); clear hC; (try go_simp); (try with_reducible rfl); done)), _, (by (simp only [Act.put, List.setIfInBounds_toArray, List.set_cons_zero, List.set_cons_succ]; rfl)), ?_⟩
          refine mx_val (by kernel_rfl) ⟨_, (by (intro w' hC; clear hC; (try go_simp); (try with_reducible rfl); done)), _, (by (simp only [Act.put, List.setIfInBounds_toArray, List.set_cons_zero, List.set_cons_succ]; rfl)), ?_⟩
          refine mx_val (by kernel_rfl) ⟨_, (by (intro w' hC; clear hC; (try go_simp); (try with_reducible rfl); done)), _, (by (simp only [Act.put, List.setIfInBounds_toArray, List.set_cons_zero, List.set_cons_succ]; rfl)), ?_⟩
          refine mx_val (by kernel_rfl) ⟨_, (by (intro w' hC; clear hC; (try go_simp); (try with_reducible rfl); done)), _, (by (simp only [Act.put, List.setIfInBounds_toArray, List.set_cons_zero, List.set_cons_succ]; rfl)), ?_⟩
          refine mx_move _ (by kernel_rfl) rfl ⟨_, (by ((try simp [go_sem]); (try rfl); done)), _, (by (simp only [Act.put, List.setIfInBounds_toArray, List.set_cons_zero, List.set_cons_succ]; rfl)), ?_⟩
          refine mx_move _ (by kernel_rfl) rfl ⟨_, (by ((try simp [go_sem]); (try rfl); done)), _, (by (simp only [Act.put, List.setIfInBounds_toArray, List.set_cons_zero, List.set_cons_succ]; rfl)), ?_⟩
          refine mx_val (by kernel_rfl) ⟨_, (by (intro w' hC; clear hC; (try go_simp); (try with_reducible rfl); done)), _, (by (simp only [Act.put, List.setIfInBounds_toArray, List.set_cons_zero, List.set_cons_succ]; rfl)), ?_⟩
          refine mx_move _ (by kernel_rfl) rfl ⟨_, (by ((try simp [go_sem]); (try rfl); done)), _, (by (simp only [Act.put, List.setIfInBounds_toArray, List.set_cons_zero, List.set_cons_succ]; rfl)), ?_⟩
          refine mx_move _ (by kernel_rfl) rfl ⟨_, (by ((try simp [go_sem]); (try rfl); done)), _, (by (simp only [Act.put, List.setIfInBounds_toArray, List.set_cons_zero, List.set_cons_succ]; rfl)), ?_⟩
          refine mx_val (by kernel_rfl) ⟨_, (by (intro w' hC; clear hC; (try go_simp); (try with_reducible rfl); done)), _, (by (simp only [Act.put, List.setIfInBounds_toArray, List.set_cons_zero, List.set_cons_succ]; rfl)), ?_⟩
          refine mx_val (by kernel_rfl) ⟨_, (by (intro w' hC; (have q0 := (y4.below hC).cell 0; have q1 := (y4.below hC).cell 1; simp only [List.getElem?_toArray, List.getElem?_cons_zero, List.getElem?_cons_succ] at q0 q1); clear hC; (try go_simp); (try with_reducible rfl); done)), _, (by (simp only [Act.put, List.setIfInBounds_toArray, List.set_cons_zero, List.set_cons_succ]; rfl)), ?_⟩
          refine mx_val (by kernel_rfl) ⟨_, (by (intro w' hC; clear hC; (try go_simp); (try with_reducible rfl); done)), _, (by (simp only [Act.put, List.setIfInBounds_toArray, List.set_cons_zero, List.set_cons_succ]; rfl)), ?_⟩
          refine mx_call (hcc) (by kernel_rfl) ?_ (bookSession_any bb mo LL (s + 1) wc (HB5.out.below hcc)) ?_
          · (go_simp; done)
          rintro e wd ⟨rfl, rfl⟩
          refine ⟨_, rfl, _, (by (simp only [Act.put, List.setIfInBounds_toArray, List.set_cons_zero, List.set_cons_succ]; rfl)), ?_⟩
          refine mx_val (by kernel_rfl) ⟨_, (by (intro w' hC; clear hC; (try go_simp); (try with_reducible rfl); done)), _, (by (simp only [Act.put, List.setIfInBounds_toArray, List.set_cons_zero, List.set_cons_succ]; rfl)), ?_⟩
          refine mx_val (by kernel_rfl) ⟨_, (by (intro w' hC; clear hC; (try go_simp); (try with_reducible rfl); done)), _, (by (simp only [Act.put, List.setIfInBounds_toArray, List.set_cons_zero, List.set_cons_succ]; rfl)), ?_⟩
          refine mx_val (by kernel_rfl) ⟨_, (by (intro w' hC; clear hC; (try go_simp); (try with_reducible rfl); done)), _, (by (simp only [Act.put, List.setIfInBounds_toArray, List.set_cons_zero, List.set_cons_succ]; rfl)), ?_⟩
          refine mx_move _ (by kernel_rfl) rfl ⟨_, (by ((try simp [go_sem]); (try rfl); done)), _, (by (simp only [Act.put, List.setIfInBounds_toArray, List.set_cons_zero, List.set_cons_succ]; rfl)), ?_⟩
          refine mx_call (hcc) (by kernel_rfl) ?_ (lives22_any wc) ?_
          · (go_simp; done)
          rintro e we ⟨rfl, hb9⟩
          have hce : Below w5.heap.size w5 we := hcc.trans (hb9.mono hcc.size)
          refine ⟨_, rfl, _, (by (simp only [Act.put, List.setIfInBounds_toArray, List.set_cons_zero, List.set_cons_succ]; rfl)), ?_⟩
          refine mx_val (by kernel_rfl) ⟨_, (by (intro w' hC; clear hC; (try go_simp); (try with_reducible rfl); done)), _, (by (simp only [Act.put, List.setIfInBounds_toArray, List.set_cons_zero, List.set_cons_succ]; rfl)), ?_⟩
          refine mx_end hce ?_
          clear hcb hcc hb7 hb8 hb9
          have hw9 := hw5.trans (hce.mono hw5.size)
          go_wp2_with fail
          go_ret
          exact ⟨rfl, hw9⟩
      · exact absurd rfl h
    · exact absurd rfl h
  · have hKb : (K == 0) = false := by simpa using hK
    have hKn : (K != 0) = true := by simpa using hK
    have hKK : (K != K) = false := by simp
    go_enter Try.func9, Try.ntmps9
    go_wp2_with fail
    refine HRD.out.mono ?_
    rintro e w2 ⟨hrd, hw2⟩
    rcases hrd with ⟨h, _⟩ | ⟨_, rfl⟩
    · exact absurd h hK
    · have HRW := Lib.hid (HRR.out w2 hw2)
      clear HRD HRR
      go_wp2_with fail
      refine HRW.out.mono ?_
      rintro e w3 ⟨hrd, hb3⟩
      rcases hrd with ⟨h, _⟩ | ⟨_, rfl⟩
      · exact absurd h hK
      · have hw3 := hw2.trans (hb3.mono hw2.size)
        have hba : Below w3.heap.size w3 (w3.alloc (.cells #[.int .u64 0, .slice none 0 0] 33)) := (Below.refl _ _).alloc (Nat.le_refl _) _
        have hw4 := hw3.trans (hba.mono hw3.size)
        clear HRW hb3
        go_upto_region 5 with (fail)
        generalize w3.alloc (.cells #[.int .u64 0, .slice none 0 0] 33) = w4 at *
        go_wp2_with fail
        refine (lives22_any w4).mono ?_
        rintro e w5 ⟨rfl, hb5⟩
        go_wp2_with fail
        go_ret
        exact ⟨rfl, hw4.trans (hb5.mono hw4.size)⟩

end Go.Proofs.Ytdnljmncdbcgeaa
