/- scan.Find and tenderref25: find. -/
import Derived.Test.YtdnljmncdbcgeaaA10

namespace Go.Proofs.Ytdnljmncdbcgeaa
open Go.RowKit Go.Maps

/-- the first row of a path -/
def idxR (p : ByteArray) (l : List RV) : Option Nat := l.findIdx? fun x => decide (x.p = p)
def idxV (o : Option Nat) : Int := o.elim (-1) fun i => (i : Int)
theorem idxR_some {p : ByteArray} {l : List RV} {i : Nat} (hi : i < l.length) (h1 : ∀ x ∈ l.take i, x.p ≠ p) (h2 : l[i].p = p) : idxR p l = some i := by
  unfold idxR
  rw [List.findIdx?_eq_some_iff_getElem]
  refine ⟨hi, by simpa using h2, fun j hj => ?_⟩
  have : l[j] ∈ l.take i := List.mem_take_iff_getElem.2 ⟨j, by omega, rfl⟩
  simpa using h1 _ this
theorem idxR_none {p : ByteArray} {l : List RV} (h1 : ∀ x ∈ l, x.p ≠ p) : idxR p l = none := by
  unfold idxR
  rw [List.findIdx?_eq_none_iff]
  intro x hx
  simpa using h1 x hx
theorem idxR_get {p : ByteArray} {l : List RV} {i : Nat} (h : idxR p l = some i) : ∃ hi : i < l.length, l[i].p = p := by
  unfold idxR at h
  rw [List.findIdx?_eq_some_iff_getElem] at h
  obtain ⟨hi, h2, _⟩ := h
  exact ⟨hi, by simpa using h2⟩
def findRv (p : ByteArray) (l : List RV) : Option RV := (idxR p l).bind fun i => l[i]?
/-- what scan.Find tells -/
def rowF (p : ByteArray) (l : List RV) : RV := (findRv p l).getD ⟨p, 0, 0, 0, 0⟩
theorem idx_find {p : ByteArray} {l : List RV} : (findRv p l).isSome = (idxR p l).isSome := by
  unfold findRv
  rcases h : idxR p l with _ | i
  · rfl
  · obtain ⟨hi, _⟩ := idxR_get h
    simp [hi]
theorem take_ne {p : ByteArray} {l : List RV} {i : Nat} (hi : i < l.length) (h1 : ∀ x ∈ l.take i, x.p ≠ p) (h2 : l[i].p ≠ p) : ∀ x ∈ l.take (i + 1), x.p ≠ p := by
  intro x hx
  rw [List.take_succ_eq_append_getElem hi] at hx
  rcases List.mem_append.1 hx with hx | hx
  · exact h1 x hx
  · rw [List.mem_singleton.1 hx]; exact h2
set_option maxRecDepth 100000 in
set_option maxHeartbeats 400000 in
theorem scanFind1_any (x : RV) (p : ByteArray) (g : Nat) (w : World) (h : Blk w g 9 #[.string p]) :
    Calls Try.prog 122 #[.agg #[.string x.p, .int .i64 x.k, .int .u64 x.v, .int .u64 x.s, .int .i64 x.z], .pointer (some ⟨g, 0, none⟩)] w fun e w' => e = .returned (.bool (decide (x.p = p))) ∧ Below w.heap.size w w' := by
  have hb0 : Below w.heap.size w (w.alloc (.cells #[.string x.p, .int .i64 x.k, .int .u64 x.v, .int .u64 x.s, .int .i64 x.z] 52)) := (Below.refl _ _).alloc (Nat.le_refl _) _
  have h1 := h.below hb0
  have c0 := h1.cell 0
  simp only [List.getElem?_toArray, List.getElem?_cons_zero] at c0
  clear h h1
  by_cases he : x.p = p
  · have heq := eq_yes he
    rw [decide_eq_true he]
    clear he
    go_enter Try.func122, Try.ntmps122
    go_wp2_with fail
    go_ret
    exact ⟨rfl, hb0⟩
  · have heq := eq_no he
    rw [decide_eq_false he]
    clear he
    go_enter Try.func122, Try.ntmps122
    go_wp2_with fail
    go_ret
    exact ⟨rfl, hb0⟩

set_option maxRecDepth 100000 in
set_option maxHeartbeats 400000 in
theorem indexF_any (A : Option Addr) (c : Nat) (l : List RV) (p : ByteArray) (g : Nat) (w : World) (h : RwR w A l) (hg : Blk w g 9 #[.string p]) :
    Calls Try.prog 121 #[.slice A l.length c, .func (.func 122) #[] #[.pointer (some ⟨g, 0, none⟩)]] w fun e w' => e = .returned (.int .i64 (idxV (idxR p l))) ∧ Below w.heap.size w w' := by
  obtain ⟨R, hR⟩ : ∃ R, R = idxV (idxR p l) := ⟨_, rfl⟩
  rw [← hR]
  have HRR := Lib.hid hR
  have HR := Lib.hid h
  have HG := Lib.hid hg
  have hll := h.len
  clear h hg hR
  go_enter Try.func121, Try.ntmps121
  go_wp2_with fail
  go_loopw [5, 8] (fun _ iv wr => ∃ i : Nat, i ≤ l.length ∧ iv = .int .i64 (i : Int) ∧ Hid (∀ x ∈ l.take i, x.p ≠ p) ∧ Below w.heap.size w wr) (fun _ iv _ => l.length - (intOf iv).toNat)
  case atStart => exact ⟨0, Nat.zero_le _, rfl, by show ∀ x ∈ l.take 0, _; simp, Below.refl _ _⟩
  case round =>
    obtain ⟨i, hi, rfl, hne, hb⟩ := hrel
    by_cases hlt : i < l.length
    · obtain ⟨b, off, hA, hbb, c0, c1, c2, c3, c4⟩ := (HR.out.below hb).at_ hlt
      have HT := Lib.hid (take_ne hlt hne.out)
      have HS := Lib.hid (idxR_some hlt hne.out)
      obtain ⟨x, hx⟩ : ∃ x, x = l[i] := ⟨_, rfl⟩
      rw [← hx] at c0 c1 c2 c3 c4 HT HS
      have HF := Lib.hid (scanFind1_any x p g wr (HG.out.below hb))
      subst hA
      clear hx hne
      by_cases he : x.p = p
      · rw [decide_eq_true he] at HF
        have HV : Hid (R = (i : Int)) := Lib.hid (by rw [HRR.out, HS.out he]; rfl)
        clear he HS HT
        go_wp2_with fail
        refine HF.out.mono ?_
        rintro e w2 ⟨rfl, hb2⟩
        go_wp2_with fail
        go_ret
        exact ⟨by rw [HV.out]; rfl, hb.trans (hb2.mono hb.size)⟩
      · rw [decide_eq_false he] at HF
        have HN := Lib.hid (HT.out he)
        clear he HS HT
        go_wp2_with fail
        refine HF.out.mono ?_
        rintro e w2 ⟨rfl, hb2⟩
        have hw2 := hb.trans (hb2.mono hb.size)
        go_wp2_with fail
        go_roundw
        case rel => exact ⟨i + 1, hlt, by go_num, HN.out, hw2⟩
        case measure => simp [intOf]; omega
    · have e : i = l.length := by omega
      subst e
      have HV : Hid (R = -1) := Lib.hid (by
        have h2 := hne.out
        rw [List.take_length] at h2
        rw [HRR.out, idxR_none h2]; rfl)
      clear hne
      go_wp2_with fail
      go_ret
      exact ⟨by rw [HV.out]; rfl, hb⟩
set_option maxRecDepth 100000 in
set_option maxHeartbeats 400000 in
theorem refFind25_any (A : Option Addr) (c : Nat) (l : List RV) (p : ByteArray) (w : World) (h : RwR w A l) :
    Calls Try.prog 70 #[.slice A l.length c, .string p] w fun e w' => e = .returned (.int .i64 (idxV (idxR p l))) ∧ Below w.heap.size w w' := by
  obtain ⟨R, hR⟩ : ∃ R, R = idxV (idxR p l) := ⟨_, rfl⟩
  rw [← hR]
  have HRR := Lib.hid hR
  have HR := Lib.hid h
  have hll := h.len
  clear h hR
  go_enter Try.func70, Try.ntmps70
  go_wp2_with fail
  go_loopw [5] (fun iv wr => ∃ i : Nat, i ≤ l.length ∧ iv = .int .i64 (i : Int) ∧ Hid (∀ x ∈ l.take i, x.p ≠ p) ∧ wr = w) (fun iv _ => l.length - (intOf iv).toNat)
  case atStart => exact ⟨0, Nat.zero_le _, rfl, by show ∀ x ∈ l.take 0, _; simp, rfl⟩
  case round =>
    obtain ⟨i, hi, rfl, hne, rfl⟩ := hrel
    by_cases hlt : i < l.length
    · obtain ⟨b, off, hA, hbb, c0, c1, c2, c3, c4⟩ := HR.out.at_ hlt
      have HT := Lib.hid (take_ne hlt hne.out)
      have HS := Lib.hid (idxR_some hlt hne.out)
      obtain ⟨x, hx⟩ : ∃ x, x = l[i] := ⟨_, rfl⟩
      rw [← hx] at c0 c1 c2 c3 c4 HT HS
      subst hA
      clear hx hne
      by_cases he : x.p = p
      · have heq := eq_yes he
        have HV : Hid (R = (i : Int)) := Lib.hid (by rw [HRR.out, HS.out he]; rfl)
        clear he HS HT
        go_wp2_with fail
        go_ret
        exact ⟨by rw [HV.out]; rfl, Below.refl _ _⟩
      · have heq := eq_no he
        have HN := Lib.hid (HT.out he)
        clear he HS HT
        go_wp2_with fail
        go_roundw
        case rel => exact ⟨i + 1, hlt, by go_num, HN.out, trivial⟩
        case measure => simp [intOf]; omega
    · have e : i = l.length := by omega
      subst e
      have HV : Hid (R = -1) := Lib.hid (by
        have h2 := hne.out
        rw [List.take_length] at h2
        rw [HRR.out, idxR_none h2]; rfl)
      clear hne
      go_wp2_with fail
      go_ret
      exact ⟨by rw [HV.out]; rfl, Below.refl _ _⟩


set_option maxRecDepth 100000 in
set_option maxHeartbeats 1000000 in
theorem scanFind_any (A : Option Addr) (c : Nat) (l : List RV) (p : ByteArray) (w : World) (h : RwR w A l) :
    Calls Try.prog 69 #[.slice A l.length c, .string p] w fun e w' => (∃ x : RV, e = .returned (.tuple #[.agg #[.string x.p, .int .i64 x.k, .int .u64 x.v, .int .u64 x.s, .int .i64 x.z], .bool (findRv p l).isSome]) ∧ Hid (x = rowF p l)) ∧ Below w.heap.size w w' := by
  have hw2 : Below w.heap.size w ((w.alloc (.cells #[.string p] 9)).alloc (.cells #[.string ⟨#[]⟩, .int .i64 0, .int .u64 0, .int .u64 0, .int .i64 0] 52)) := ((Below.refl _ _).alloc (Nat.le_refl _) _).alloc (by simp) _
  have x2 : Blk ((w.alloc (.cells #[.string p] 9)).alloc (.cells #[.string ⟨#[]⟩, .int .i64 0, .int .u64 0, .int .u64 0, .int .i64 0] 52)) w.heap.size 9 #[.string p] := (Blk.new w 9 #[.string p]).below ((Below.refl _ _).alloc (Nat.le_refl _) _)
  have y2 : Blk ((w.alloc (.cells #[.string p] 9)).alloc (.cells #[.string ⟨#[]⟩, .int .i64 0, .int .u64 0, .int .u64 0, .int .i64 0] 52)) (w.heap.size + 1) 52 #[.string ⟨#[]⟩, .int .i64 0, .int .u64 0, .int .u64 0, .int .i64 0] := by
    have := Blk.new (w.alloc (.cells #[.string p] 9)) 52 #[.string ⟨#[]⟩, .int .i64 0, .int .u64 0, .int .u64 0, .int .i64 0]
    rwa [show (w.alloc (.cells #[.string p] 9)).heap.size = w.heap.size + 1 by simp] at this
  have HIX := Lib.hid (indexF_any A c l p w.heap.size _ (h.below hw2) x2)
  have HR := Lib.hid (h.below hw2)
  have hll := h.len
  clear h
  obtain ⟨V, hV⟩ : ∃ V, V = idxV (idxR p l) := ⟨_, rfl⟩
  obtain ⟨bo, hbo⟩ : ∃ bo, bo = (findRv p l).isSome := ⟨_, rfl⟩
  rw [← hV] at HIX
  rw [← hbo]
  have HV := Lib.hid hV
  have HBO := Lib.hid hbo
  clear hV hbo
  go_enter Try.func69, Try.ntmps69
  go_wp2_with fail
  generalize ((w.alloc (.cells #[.string p] 9)).alloc (.cells #[.string ⟨#[]⟩, .int .i64 0, .int .u64 0, .int .u64 0, .int .i64 0] 52)) = w2 at *
  refine HIX.out.mono ?_
  rintro e w3 ⟨rfl, hb3⟩
  have hw3 := hw2.trans (hb3.mono hw2.size)
  have x3 := x2.below hb3
  have y3 := y2.below hb3
  have fr := fun o => y3.frozen o
  have q0 := x3.cell 0
  simp only [List.getElem?_toArray, List.getElem?_cons_zero] at q0
  have r0 := y3.cell 0
  have r1 := y3.cell 1
  have r2 := y3.cell 2
  have r3 := y3.cell 3
  have r4 := y3.cell 4
  simp only [List.getElem?_toArray, List.getElem?_cons_zero, List.getElem?_cons_succ] at r0 r1 r2 r3 r4
  rcases hi : idxR p l with _ | i
  · have hn : findRv p l = none := by unfold findRv; rw [hi]; rfl
    have HRF : Hid (rowF p l = ⟨p, 0, 0, 0, 0⟩) := Lib.hid (by unfold rowF; rw [hn]; rfl)
    obtain rfl : V = -1 := by rw [HV.out, hi]; rfl
    obtain rfl : bo = false := by rw [HBO.out, hn]; rfl
    clear hi hn x2 y2 HIX x3
    go_wp2_with fail
    have kR : Fr (fun z => z = w.heap.size + 1) w3 (((((w3.setCell ⟨w.heap.size + 1, 0, none⟩ (.string p)).setCell ⟨w.heap.size + 1, 1, none⟩ (.int .i64 0)).setCell ⟨w.heap.size + 1, 2, none⟩ (.int .u64 0)).setCell ⟨w.heap.size + 1, 3, none⟩ (.int .u64 0)).setCell ⟨w.heap.size + 1, 4, none⟩ (.int .i64 0)) := ((((((Fr.refl (fun z => z = w.heap.size + 1) w3).setAt (w.heap.size + 1) _ rfl _).setAt (w.heap.size + 1) _ rfl _).setAt (w.heap.size + 1) _ rfl _).setAt (w.heap.size + 1) _ rfl _).setAt (w.heap.size + 1) _ rfl _)
    have yR := (((((y3.set_ 0 (.string p)).set_ 1 (.int .i64 0)).set_ 2 (.int .u64 0)).set_ 3 (.int .u64 0)).set_ 4 (.int .i64 0))
    simp only [List.setIfInBounds_toArray, List.set_cons_zero, List.set_cons_succ] at yR
    have hwR : Below w.heap.size w (((((w3.setCell ⟨w.heap.size + 1, 0, none⟩ (.string p)).setCell ⟨w.heap.size + 1, 1, none⟩ (.int .i64 0)).setCell ⟨w.heap.size + 1, 2, none⟩ (.int .u64 0)).setCell ⟨w.heap.size + 1, 3, none⟩ (.int .u64 0)).setCell ⟨w.heap.size + 1, 4, none⟩ (.int .i64 0)) := hw3.trans (kR.below (B := w.heap.size) hw3.size (fun k hk e => by omega))
    generalize (((((w3.setCell ⟨w.heap.size + 1, 0, none⟩ (.string p)).setCell ⟨w.heap.size + 1, 1, none⟩ (.int .i64 0)).setCell ⟨w.heap.size + 1, 2, none⟩ (.int .u64 0)).setCell ⟨w.heap.size + 1, 3, none⟩ (.int .u64 0)).setCell ⟨w.heap.size + 1, 4, none⟩ (.int .i64 0)) = wR at *
    have s0 := yR.cell 0
    have s1 := yR.cell 1
    have s2 := yR.cell 2
    have s3 := yR.cell 3
    have s4 := yR.cell 4
    simp only [List.getElem?_toArray, List.getElem?_cons_zero, List.getElem?_cons_succ] at s0 s1 s2 s3 s4
    refine bodyPost_ret (v := .tuple #[.agg #[.string p, .int .i64 0, .int .u64 0, .int .u64 0, .int .i64 0], .bool false]) (by simp [results, Try.results69, go_sem, s0, s1, s2, s3, s4]) rfl ?_
    exact ⟨⟨⟨p, 0, 0, 0, 0⟩, rfl, HRF.out.symm⟩, hwR⟩
  · obtain ⟨hil, hip⟩ := idxR_get hi
    have hn : findRv p l = some l[i] := by unfold findRv; rw [hi]; simp [hil]
    have HRF : Hid (rowF p l = l[i]) := Lib.hid (by unfold rowF; rw [hn]; rfl)
    obtain ⟨b, off, hA, hbb, c0, c1, c2, c3, c4⟩ := (HR.out.below hb3).at_ hil
    obtain rfl : V = (i : Int) := by rw [HV.out, hi]; rfl
    obtain rfl : bo = true := by rw [HBO.out, hn]; rfl
    obtain ⟨x, hx⟩ : ∃ x, x = l[i] := ⟨_, rfl⟩
    rw [← hx] at c0 c1 c2 c3 c4 HRF
    have hi0 : (0 : Int) ≤ (i : Int) := by omega
    have hid : decide ((0 : Int) ≤ (i : Int)) = true := decide_eq_true hi0
    subst hA
    clear hi hn x2 y2 HIX x3 hx hip
    go_wp2_with fail
    have kR : Fr (fun z => z = w.heap.size + 1) w3 (((((w3.setCell ⟨w.heap.size + 1, 0, none⟩ (.string x.p)).setCell ⟨w.heap.size + 1, 1, none⟩ (.int .i64 x.k)).setCell ⟨w.heap.size + 1, 2, none⟩ (.int .u64 x.v)).setCell ⟨w.heap.size + 1, 3, none⟩ (.int .u64 x.s)).setCell ⟨w.heap.size + 1, 4, none⟩ (.int .i64 x.z)) := ((((((Fr.refl (fun z => z = w.heap.size + 1) w3).setAt (w.heap.size + 1) _ rfl _).setAt (w.heap.size + 1) _ rfl _).setAt (w.heap.size + 1) _ rfl _).setAt (w.heap.size + 1) _ rfl _).setAt (w.heap.size + 1) _ rfl _)
    have yR := (((((y3.set_ 0 (.string x.p)).set_ 1 (.int .i64 x.k)).set_ 2 (.int .u64 x.v)).set_ 3 (.int .u64 x.s)).set_ 4 (.int .i64 x.z))
    simp only [List.setIfInBounds_toArray, List.set_cons_zero, List.set_cons_succ] at yR
    have hwR : Below w.heap.size w (((((w3.setCell ⟨w.heap.size + 1, 0, none⟩ (.string x.p)).setCell ⟨w.heap.size + 1, 1, none⟩ (.int .i64 x.k)).setCell ⟨w.heap.size + 1, 2, none⟩ (.int .u64 x.v)).setCell ⟨w.heap.size + 1, 3, none⟩ (.int .u64 x.s)).setCell ⟨w.heap.size + 1, 4, none⟩ (.int .i64 x.z)) := hw3.trans (kR.below (B := w.heap.size) hw3.size (fun k hk e => by omega))
    generalize (((((w3.setCell ⟨w.heap.size + 1, 0, none⟩ (.string x.p)).setCell ⟨w.heap.size + 1, 1, none⟩ (.int .i64 x.k)).setCell ⟨w.heap.size + 1, 2, none⟩ (.int .u64 x.v)).setCell ⟨w.heap.size + 1, 3, none⟩ (.int .u64 x.s)).setCell ⟨w.heap.size + 1, 4, none⟩ (.int .i64 x.z)) = wR at *
    have s0 := yR.cell 0
    have s1 := yR.cell 1
    have s2 := yR.cell 2
    have s3 := yR.cell 3
    have s4 := yR.cell 4
    simp only [List.getElem?_toArray, List.getElem?_cons_zero, List.getElem?_cons_succ] at s0 s1 s2 s3 s4
    refine bodyPost_ret (v := .tuple #[.agg #[.string x.p, .int .i64 x.k, .int .u64 x.v, .int .u64 x.s, .int .i64 x.z], .bool true]) (by simp [results, Try.results69, go_sem, s0, s1, s2, s3, s4]) rfl ?_
    exact ⟨⟨x, rfl, HRF.out.symm⟩, hwR⟩

end Go.Proofs.Ytdnljmncdbcgeaa

/- merge: the paths of a map of marks, in order. -/
namespace Go.Proofs.Ytdnljmncdbcgeaa
open Go.RowKit Go.Maps Go.Sort Go.Shelf

theorem keysC_any (mb : Nat) (W : World) : Calls Try.prog 68 #[.map (some mb)] W fun e w' => e = .returned (.func (.func 120) #[] #[.pointer (some ⟨W.heap.size, 0, none⟩)]) ∧ w' = W.alloc (.cells #[.map (some mb)] 118) :=
  (callsIn_wide (n := 5)).1 (AnyZ.keys_in Try.keysC Fence.wide 5 trivial rfl (some mb) W)
set_option maxRecDepth 100000 in
set_option maxHeartbeats 1000000 in
theorem collectC_any {mb : Nat} {L : List (List UInt8 × Value)} (w : World) (h : MapAt w Try.prog 9 mb L) (hl : L.length ≤ 1000000) :
    Calls Try.prog 119 #[.func (.func 120) #[] #[.pointer (some ⟨w.heap.size, 0, none⟩)]] (w.alloc (.cells #[.map (some mb)] 118)) fun e w' => ∃ A c, ∃ ss : List (List UInt8), e = .returned (.slice A ss.length c) ∧ w'.ownsRow w.heap.size 9 1 (.slice A ss.length c) ss.length (ss.map stv) ∧ Hid (ss.Perm (keysR L)) ∧ Below w.heap.size w w' := by
  obtain ⟨D, hown, ht⟩ := h.own
  obtain ⟨hp, hz⟩ := own_keys hown Try.underlying9 ht h.sort
  have hseq : SeqGives Fence.wide 3 Try.prog 120 #[.pointer (some ⟨w.heap.size, 0, none⟩)] encStr (fun ss => ss.Perm (strKeys D)) (Maps.size D) (w.alloc (.cells #[.map (some mb)] 118)) :=
    AnyZ.keys_gives (ρ := Try.keysC_ren) { Try.keysC with } Fence.wide _ trivial rfl (by omega) w.heap.size mb L.length D _ (by simp) (by simp) (by
      obtain ⟨es, clock, hb, Ft, hs, hD⟩ := hown
      exact ⟨es, clock, (Below.heap_alloc _ _ mb h.lt).trans hb, Ft, hs, hD⟩)
  have cC := AnyZ.collect_in Try.collectB Fence.wide 5 trivial trivial rfl (by omega) 120 #[.pointer (some ⟨w.heap.size, 0, none⟩)] trivial (enters_of Try.func120 (by kernel_rfl) rfl) _ _ (by rw [hz]; simp only [maxLen]; omega) (by rw [hz]; omega) _ hseq
  change CallsIn _ _ Try.prog 119 _ _ _ at cC
  refine ((callsIn_wide (n := 5)).1 cC).mono ?_
  rintro e w' ⟨v, ss, rfl, hS, hrow, hnil, hb⟩
  have hrow2 := own_base (base' := w.heap.size) hrow (fun g hg => by have := (hrow.lt g hg).1; simp at this; omega)
  obtain ⟨A, c, rfl, _⟩ := own_form hrow2
  exact ⟨A, c, ss, rfl, hrow2, hS.trans hp.symm, ((Below.refl _ w).alloc (Nat.le_refl _) _).trans (hb.mono (by simp))⟩
set_option maxRecDepth 100000 in
set_option maxHeartbeats 1000000 in
theorem sortedC_any {mb : Nat} {L : List (List UInt8 × Value)} (w : World) (h : MapAt w Try.prog 9 mb L) (hl : L.length ≤ 1000000) (hk : ∀ x ∈ L, x.1.length ≤ 140737488355328) :
    Calls Try.prog 67 #[.func (.func 120) #[] #[.pointer (some ⟨w.heap.size, 0, none⟩)], .func (.func 60) #[] #[]] (w.alloc (.cells #[.map (some mb)] 118)) fun e w' => ∃ A c, e = .returned (.slice A L.length c) ∧ w'.ownsRow w.heap.size 9 1 (.slice A L.length c) L.length ((keysR L).map stv) ∧ Below w.heap.size w w' := by
  have HC := Lib.hid (collectC_any w h hl)
  have HS := Lib.hid h.sort
  have HK := Lib.hid hk
  clear h hk
  go_enter Try.func67, Try.ntmps67
  go_wp2_with fail
  refine HC.out.mono ?_
  rintro e w1 ⟨A, c, ss, rfl, hr, hp, hb⟩
  have hsl : ss.length = L.length := by rw [hp.out.length_eq, keys_len]
  have hmem : ∀ k, k ∈ ss ↔ k ∈ keysR L := fun k => hp.out.mem_iff
  have hfin : ss.mergeSort leT = keysR L := by
    have := sort_keys HS.out (fun _ => true) (hp.out.nodup_iff.2 HS.out.nodup) (fun k => by simp [hmem k])
    rwa [List.filter_eq_self.2 (fun _ _ => rfl)] at this
  have HT := sortsT w.heap.size A c ss w1 hr (fun x hx => by
    obtain ⟨y, hy, rfl⟩ := List.mem_map.1 ((hmem x).1 hx)
    exact HK.out y hy) (by omega)
  rw [hfin] at HT
  have hab : ∀ g, ablk A = some g → w.heap.size ≤ g := fun g hg => ((Row.of_own hr).lt g hg).1
  replace HT := Lib.hid HT
  have HSL := Lib.hid hsl
  clear hr hp hmem hfin HC hsl
  go_wp2_with fail
  refine HT.out.mono ?_
  rintro e w2 ⟨rfl, hr2, hg2⟩
  rw [HSL.out] at hr2
  rw [HSL.out]
  have HR := Lib.hid hr2
  have hw2 := hb.trans (grown_below hg2 hb.size hab)
  clear HT hr2 hg2 hb
  go_wp2_with fail
  go_ret
  exact ⟨A, c, rfl, HR.out, hw2⟩
end Go.Proofs.Ytdnljmncdbcgeaa

/- merge.Verdict, tenderref25.Verdict; rows cloned. -/
namespace Go.Proofs.Ytdnljmncdbcgeaa
open Go.RowKit Go.WideShapes Go.ChangeShapes Go.ChangeAt

def verd (m t : Bool) (k o s l : Int) : Int :=
  if m = true ∧ t = true then (if k ≠ o then 5 else if k = 1 then (if s = l then 4 else 5) else 3) else if m = true then 1 else if t = true then 2 else 0

set_option maxHeartbeats 400000 in
theorem verdict_any (p : ByteArray) (b : Int) (m t : Bool) (k o s l v : Int) (w : World) :
    Calls Try.prog 64 #[chV p b m t k o s l v] w fun e w' => e = .returned (.int .i64 (verd m t k o s l)) ∧ Below w.heap.size w w' := by
  cases m <;> cases t
  all_goals
    go_enter Try.func64, Try.ntmps64
    go_wp2
    all_goals
      go_ret
      exact ⟨ret_i (by grind [verd]), (by repeat (first | exact Below.refl _ _ | refine Below.alloc ?_ (by simp) _ | refine Below.drew ?_))⟩


set_option maxHeartbeats 400000 in
theorem verdictR_any (p : ByteArray) (b : Int) (m t : Bool) (k o s l v : Int) (w : World) :
    Calls Try.prog 71 #[chV p b m t k o s l v] w fun e w' => e = .returned (.int .i64 (verd m t k o s l)) ∧ Below w.heap.size w w' := by
  cases m <;> cases t
  all_goals
    go_enter Try.func71, Try.ntmps71
    go_wp2
    all_goals
      go_ret
      exact ⟨ret_i (by grind [verd]), (by repeat (first | exact Below.refl _ _ | refine Below.alloc ?_ (by simp) _ | refine Below.drew ?_))⟩

theorem rv_one (l : List RV) : ∀ u ∈ l.flatMap RV.cells, u.oneCell' = true := by
  intro u hu
  obtain ⟨x, _, hx⟩ := List.mem_flatMap.1 hu
  simp only [RV.cells, List.mem_cons, List.not_mem_nil, or_false] at hx
  rcases hx with rfl | rfl | rfl | rfl | rfl <;> rfl
set_option maxRecDepth 100000 in
set_option maxHeartbeats 1000000 in
theorem cloneRw_any (A : Option Addr) (c : Nat) (l : List RV) (Z : Nat → Prop) (w : World) (h : Rd w Z 5 A l.length (l.flatMap RV.cells)) (hlen : l.length ≤ 1000000) :
    Calls Try.prog 66 #[.slice A l.length c] w fun e w' => ∃ (A' : Option Addr) (c' : Nat), e = .returned (.slice A' l.length c') ∧ Row w' w.heap.size 52 5 A' l.length c' (l.flatMap RV.cells) ∧ Below w.heap.size w w' := by
  obtain ⟨i0, hi0, hz0, hz1, hz2⟩ := info_parts row_info
  rcases A with _ | a
  · have hl : l = [] := by
      rcases l with _ | ⟨x, l⟩
      · rfl
      · obtain ⟨b, off, e, _⟩ := h.2 (by simp); cases e
    subst hl
    have k1 : ∀ w, (binOp .eql 47 (.slice none 0 c) (.slice none 0 0)).run Try.prog w = .ok (.bool true) w := fun w => Lib.run_eql_slice_nil (P := Try.prog) w 47 52 none 0 c 0 0 Try.underlying47
    show Calls Try.prog 66 #[.slice none 0 c] w _
    go_enter Try.func66, Try.ntmps66
    go_wp2_with fail
    go_ret
    exact ⟨none, 0, rfl, Row.none_ _ _ _ _, Below.refl _ _⟩
  · have k1 := fun w => Lib.run_eql_slice_nil (P := Try.prog) w 47 52 (some a) l.length c 0 0 Try.underlying47
    have hch := rv_one l
    generalize hn : l.length = n at *
    generalize l.flatMap RV.cells = xs at *
    clear hn
    have hr := h.alloc (.cells #[] 52)
    have hrow : Row (w.alloc (.cells #[] 52)) w.heap.size 52 5 (some ⟨w.heap.size, 0, none⟩) 0 0 [] :=
      ⟨by simp, Nat.le_refl _, by simp [maxLen], fun h => (by cases h), fun a ha => by
        injection ha with ha
        subst ha
        exact ⟨w.heap.size, 0, _, rfl, Nat.le_refl _, Blk.new w _ _, by simp, by simp⟩⟩
    have HR := Lib.hid hr
    have HW := Lib.hid hrow
    have HC := Lib.hid hch
    clear hr hrow hch h
    go_enter Try.func66, Try.ntmps66
    go_wp2_with (at_builtin; refine wpList_append_row _ rfl (.tmp 5) (.tmp 6) 47 rfl w.heap.size 52 i0 _ 5 48 Try.underlying47 hi0 hz0 hz1 hz2 rfl (by omega) rfl HW.out rfl HR.out HC.out (by simp only [maxLen]; omega) (by omega) (by simp) ?_; intro A' c' w1 h1 h2 h3; rw [List.nil_append, Nat.zero_add] at h1)
    have hb : Below w.heap.size w w1 := by
      have hf : Fr (fun k => k = w.heap.size) (w.alloc (.cells #[] 52)) w1 := Fr.of_grown h2 (fun k hk e => by simp [ablk] at e; omega)
      exact ((Below.refl _ _).alloc (Nat.le_refl _) _).trans (hf.below (by simp) (fun k hk e => by omega))
    go_ret
    exact ⟨A', c', by simp, h1, hb⟩
/-- one change, plainly -/
def kindP (T : List (List UInt8 × EP)) (p : List UInt8) : Int := ((getR T p).map (·.2.1)).getD 0
def chgV (T : List (List UInt8 × EP)) (mine theirs : List RV) (p : List UInt8) : CV :=
  ⟨⟨⟨p⟩⟩, kindP T p, (findRv ⟨⟨p⟩⟩ mine).isSome, (findRv ⟨⟨p⟩⟩ theirs).isSome, (findRv ⟨⟨p⟩⟩ mine).elim (kindP T p) (·.k), (findRv ⟨⟨p⟩⟩ theirs).elim (kindP T p) (·.k),
    (findRv ⟨⟨p⟩⟩ mine).elim 0 (·.z), (findRv ⟨⟨p⟩⟩ theirs).elim 0 (·.z),
    verd (findRv ⟨⟨p⟩⟩ mine).isSome (findRv ⟨⟨p⟩⟩ theirs).isSome ((findRv ⟨⟨p⟩⟩ mine).elim (kindP T p) (·.k)) ((findRv ⟨⟨p⟩⟩ theirs).elim (kindP T p) (·.k)) ((findRv ⟨⟨p⟩⟩ mine).elim 0 (·.z)) ((findRv ⟨⟨p⟩⟩ theirs).elim 0 (·.z))⟩
/-- all paths of rows, in order -/
def pathsR (l : List RV) : List (List UInt8) := keysR (theirsS (l.map RV.pv))
def chgS (T : List (List UInt8 × EP)) (mine theirs : List RV) : List CV := (pathsR (mine ++ theirs)).map (chgV T mine theirs)
theorem pathsR_mem (l : List RV) (p : List UInt8) : p ∈ pathsR l ↔ p ∈ l.map fun x => tl x.p := by
  unfold pathsR
  rw [theirs_mem, List.map_map]
  rfl
theorem pathsR_sort (l : List RV) : sortedS (pathsR l) := sortedS_keys (theirs_sort _)
theorem pathsR_len (l : List RV) : (pathsR l).length ≤ l.length := by
  unfold pathsR
  rw [keys_len]
  have := theirs_len (l.map RV.pv)
  rwa [List.length_map] at this
end Go.Proofs.Ytdnljmncdbcgeaa

/- Drawn regions with two operations that make memory, neither of which waits for the other: both orders, and one continuation. No program. -/
namespace Go.Proofs.Ytdnljmncdbcgeaa
open Go.RowKit

section
variable {P : Program} {ops : Array Oper} {md : Region.Mode} {C : World → Prop}
def mix2 (md : Region.Mode) (ops : Array Oper) (g m i j : Nat) (ks2 : List (Nat × Bool)) : List Nat → Array Bool → Bool
  | [], listed => decide (i < m) && decide (j < m) && decide (Region.ready md ops listed = [i, j]) && decide (Region.ready md ops (listed.setIfInBounds i true) = [j]) && decide (Region.ready md ops (listed.setIfInBounds j true) = [i]) &&
      mixP md ops g m ks2 ((listed.setIfInBounds i true).setIfInBounds j true) && mixP md ops g m ks2 ((listed.setIfInBounds j true).setIfInBounds i true)
  | k :: ks, listed => decide (k < m) && (Region.ready md ops listed).contains k && Region.free md ops listed k && mix2 md ops g m i j ks2 ks (listed.setIfInBounds k true)
theorem alone_step {m g i j : Nat} {Lq : Act → World → Prop} (hsel : ∀ (j : Nat) (o : Oper) cs b, ops[j]? = some o → o.op ≠ .select cs b) (hT : TailWaitsB md ops m)
    {oi oj : Oper} (hi : ops[i]? = some oi) (hj : ops[j]? = some oj) {listed : Array Bool} {a : Act} {w : World} (inv : HeadInv md ops m listed) (him : i < m) (hjm : j < m) (hri : i ∈ Region.ready md ops listed)
    (hr : Region.ready md ops (listed.setIfInBounds i true) = [j]) {ks2 : List (Nat × Bool)} {l2 : List Oper} (hl2 : l2.map some = ks2.map (fun x => ops[x.1]?)) (hs : mixP md ops g m ks2 ((listed.setIfInBounds i true).setIfInBounds j true) = true)
    (h : wpMix P ops C Lq (false :: false :: ks2.map (·.2)) (oi :: oj :: l2) a w) : i < m ∧ wpOp P ops Qz i (wpAnyT P md ops C m (fun listed' a' w' => Region.seqB md ops g m listed' = true ∧ Lq a' w') (l2.length + 1) (listed.setIfInBounds i true)) a w := by
  refine ⟨him, ?_⟩
  have rec_ : ∀ a' w', wpMix P ops C Lq (false :: ks2.map (·.2)) (oj :: l2) a' w' → wpAnyT P md ops C m (fun listed' a' w' => Region.seqB md ops g m listed' = true ∧ Lq a' w') (l2.length + 1) (listed.setIfInBounds i true) a' w' := fun a' w' h2 =>
    mix_perm hsel hT ((j, false) :: ks2) (oj :: l2) _ a' w' (by simp [hj, hl2]) (inv.set hri him) (by simp [mixP, hjm, hr, hs]) h2
  obtain ⟨_, h'⟩ := h
  unfold wpOp
  simp only [hi]
  rcases h' with ⟨hw, h'⟩ | ⟨hw, h'⟩
  · simp only [hw, if_true]
    exact .inl (Oper.wp_mono rec_ h')
  · simp only [hw, Bool.false_eq_true, if_false]
    exact rec_ _ _ h'
theorem mix_two {m g i j : Nat} {Lq : Act → World → Prop} (hsel : ∀ (j : Nat) (o : Oper) cs b, ops[j]? = some o → o.op ≠ .select cs b) (hT : TailWaitsB md ops m)
    {oi oj : Oper} (hi : ops[i]? = some oi) (hj : ops[j]? = some oj) {ks2 : List (Nat × Bool)} {l2 : List Oper} (hl2 : l2.map some = ks2.map (fun x => ops[x.1]?)) :
    ∀ (ks : List Nat) (l : List Oper) (listed : Array Bool) (a : Act) (w : World), l.map some = ks.map (fun x => ops[x]?) → HeadInv md ops m listed →
    mix2 md ops g m i j ks2 ks listed = true → wpMix P ops C (fun a' w' => MixW P ops C Lq (false :: false :: ks2.map (·.2)) (oi :: oj :: l2) a' w' ∧ MixW P ops C Lq (false :: false :: ks2.map (·.2)) (oj :: oi :: l2) a' w') (ks.map fun _ => true) l a w →
    wpAnyT P md ops C m (fun listed' a' w' => Region.seqB md ops g m listed' = true ∧ Lq a' w') (l.length + (l2.length + 2)) listed a w
  | [], [], listed, a, w, _, inv, hB, h => by
    simp only [mix2, Bool.and_eq_true, decide_eq_true_eq] at hB
    obtain ⟨⟨⟨⟨⟨⟨him, hjm⟩, hr⟩, hri⟩, hrj⟩, hs1⟩, hs2⟩ := hB
    obtain ⟨hc, h1, h2⟩ := h
    rw [List.length_nil, Nat.zero_add]
    refine ⟨hc, fun h => (by rw [hr] at h; cases h), fun x hx => ?_⟩
    have hx' := hx
    rw [hr] at hx
    rcases List.mem_cons.1 hx with rfl | hx
    · exact alone_step hsel hT hi hj inv him hjm hx' hri hl2 hs1 h1.go
    · obtain rfl := List.mem_singleton.1 hx
      exact alone_step hsel hT hj hi inv hjm him hx' hrj hl2 hs2 h2.go
  | k :: ks, o :: l, listed, a, w, hl, inv, hB, h => by
    simp only [List.map_cons, List.cons.injEq] at hl
    have h0 : ops[k]? = some o := hl.1.symm
    simp only [mix2, Bool.and_eq_true, decide_eq_true_eq] at hB
    obtain ⟨⟨⟨hkm, hr⟩, hf⟩, hB'⟩ := hB
    have hr' : k ∈ Region.ready md ops listed := by simpa using hr
    obtain ⟨v, hy, h'⟩ := h
    have := wpAnyT_first h0 hkm hsel hT _ listed a w inv (Region.free_spec h0 hf) hr' hy (mix_two hsel hT hi hj hl2 ks l _ _ w hl.2 (inv.set hr' hkm) hB' h')
    rwa [show l.length + (l2.length + 2) + 1 = (o :: l).length + (l2.length + 2) by simp only [List.length_cons]; omega] at this
  | [], _ :: _, _, _, _, hl, _, _, _ => by simp at hl
  | _ :: _, [], _, _, _, hl, _, _, _ => by simp at hl
theorem filterMap_someN (l : List Oper) : ∀ (ks : List Nat), ks.all (fun x => decide (x < l.length)) = true → (ks.filterMap fun x => l[x]?).map some = ks.map (fun x => l.toArray[x]?)
  | [], _ => rfl
  | x :: ks, h => by
    simp only [List.all_cons, Bool.and_eq_true, decide_eq_true_eq] at h
    have ih := filterMap_someN l ks h.2
    rw [List.filterMap_cons, List.getElem?_eq_getElem h.1]
    simp only [List.map_cons]
    rw [ih, show l.toArray[x]? = some l[x] by simp [h.1]]
/-- operations that tell, in an order of ours; two that are alone, in either order; more, by kinds; the rest one behind the other -/
theorem wp_region_2 {id : Nat} {Q : Exit → Act → World → Prop} {a : Act} {w : World} {l : List Oper} (ks : List Nat) (i j : Nat) (ks2 : List (Nat × Bool)) (n : Nat) (C : World → Prop) {oi oj : Oper} (hi : l.toArray[i]? = some oi) (hj : l.toArray[j]? = some oj) (hn : n = ks.length + (ks2.length + 2)) (hm : P.follows .mixedOrders = true)
    (hB : (ks.all (fun x => decide (x < l.length)) && ks2.all (fun x => decide (x.1 < l.length)) && tailOkB l.toArray n && mix2 .any l.toArray (l.toArray.size - n) n i j ks2 ks (Array.replicate l.toArray.size false)) = true)
    (h : MixW P l.toArray C (fun a' w' => MixW P l.toArray C (fun a' w' => wpList P l.toArray Q (l.drop n) a' w') (false :: false :: ks2.map (·.2)) (oi :: oj :: ks2.filterMap fun x => l[x.1]?) a' w' ∧ MixW P l.toArray C (fun a' w' => wpList P l.toArray Q (l.drop n) a' w') (false :: false :: ks2.map (·.2)) (oj :: oi :: ks2.filterMap fun x => l[x.1]?) a' w') (ks.map fun _ => true) (ks.filterMap fun x => l[x]?) a w.drew) : (Code.region id l.toArray true).wp P Q a w := by
  rw [Bool.and_eq_true, Bool.and_eq_true, Bool.and_eq_true] at hB
  obtain ⟨⟨⟨hall, hall2⟩, hok⟩, hlex⟩ := hB
  obtain ⟨hsel, hnl, hT⟩ := tailOkB_spec hok
  have hfm := filterMap_someN l ks hall
  have hfm2 := filterMap_some l ks2 hall2
  have hfl : (ks.filterMap fun x => l[x]?).length = ks.length := by simpa using congrArg List.length hfm
  have hfl2 : (ks2.filterMap fun x => l[x.1]?).length = ks2.length := by simpa using congrArg List.length hfm2
  have hdl : (l.drop n).length = l.toArray.size - n := by simp
  have H := mix_two (P := P) (md := .any) (m := n) (g := l.toArray.size - n) (Region.noSelect_spec hsel) hT hi hj hfm2 ks _ _ a w.drew hfm (inv_new _) hlex h.go
  refine wp_region_any hm ?_
  have := wpAny_of_T (Q := Q) (g := l.toArray.size - n) (fun listed a' w' hL => by
    have := wpAny_of_seq (md := .any) (Q' := Q) (l.drop n) n listed a' w' (fun j => by simp [List.getElem?_drop]) (by rw [hdl]; exact hL.1) hL.2
    rwa [hdl] at this) _ _ _ _ H
  rw [hfl, hfl2, show ks.length + (ks2.length + 2) + (l.toArray.size - n) = l.toArray.size by simp at hnl ⊢; omega] at this
  exact this
/-- the same, with the operations picked out of the region's row -/
theorem wp_region_two {id : Nat} {Q : Exit → Act → World → Prop} {a : Act} {w : World} {l : List Oper} (ks : List Nat) (i j : Nat) (ks2 : List (Nat × Bool)) (n : Nat) (C : World → Prop) (hm : P.follows .mixedOrders = true) (hn : n = ks.length + (ks2.length + 2))
    (hB : (decide (i < l.length) && decide (j < l.length) && (ks.all (fun x => decide (x < l.length)) && ks2.all (fun x => decide (x.1 < l.length)) && tailOkB l.toArray n && mix2 .any l.toArray (l.toArray.size - n) n i j ks2 ks (Array.replicate l.toArray.size false))) = true)
    (h : MixW P l.toArray C (fun a' w' => MixW P l.toArray C (fun a' w' => wpList P l.toArray Q (l.drop n) a' w') (false :: false :: ks2.map (·.2)) (([i, j] ++ ks2.map (·.1)).filterMap fun x => l[x]?) a' w' ∧ MixW P l.toArray C (fun a' w' => wpList P l.toArray Q (l.drop n) a' w') (false :: false :: ks2.map (·.2)) (([j, i] ++ ks2.map (·.1)).filterMap fun x => l[x]?) a' w') (ks.map fun _ => true) (ks.filterMap fun x => l[x]?) a w.drew) : (Code.region id l.toArray true).wp P Q a w := by
  rw [Bool.and_eq_true, Bool.and_eq_true, decide_eq_true_eq, decide_eq_true_eq] at hB
  obtain ⟨⟨hi, hj⟩, hB⟩ := hB
  refine wp_region_2 ks i j ks2 n C (oi := l[i]) (oj := l[j]) (by simp [hi]) (by simp [hj]) hn hm hB ?_
  have e : (ks2.map (·.1)).filterMap (fun x => l[x]?) = ks2.filterMap fun x => l[x.1]? := by rw [List.filterMap_map]; rfl
  simpa [List.filterMap_cons, hi, hj, e] using h
theorem wpMix_mono {E E' : Act → World → Prop} (hh : ∀ a' w', E a' w' → E' a' w') : ∀ (ks : List Bool) (l : List Oper) (a : Act) (w : World), wpMix P ops C E ks l a w → wpMix P ops C E' ks l a w
  | [], [], _, _, h => ⟨h.1, hh _ _ h.2⟩
  | true :: ks, _ :: l, _, _, ⟨v, hy, h⟩ => ⟨v, hy, wpMix_mono hh ks l _ _ h⟩
  | false :: ks, _ :: l, _, _, h => ⟨h.1, h.2.imp (fun h => ⟨h.1, Oper.wp_mono (fun a' w' => wpMix_mono hh ks l a' w') h.2⟩) (fun h => ⟨h.1, wpMix_mono hh ks l _ _ h.2⟩)⟩
  | [], _ :: _, _, _, h => h.elim
  | true :: _, [], _, _, h => h.elim
  | false :: _, [], _, _, h => h.elim
theorem wpMix_two {E : Act → World → Prop} {ks : List Bool} {l : List Oper} {o o' : Oper} {a : Act} {w : World} (h : wpMix P ops C (fun a' w' => wpMix P ops C E ks l a' w') [false, false] [o, o'] a w) : wpMix P ops C E (false :: false :: ks) (o :: o' :: l) a w := by
  have m1 : ∀ a' w', wpMix P ops C (fun a' w' => wpMix P ops C E ks l a' w') [false] [o'] a' w' → wpMix P ops C E (false :: ks) (o' :: l) a' w' := fun a' w' h => ⟨h.1, h.2.imp (fun h => ⟨h.1, Oper.wp_mono (fun _ _ h => h.2) h.2⟩) (fun h => ⟨h.1, h.2.2⟩)⟩
  exact ⟨h.1, h.2.imp (fun h => ⟨h.1, Oper.wp_mono m1 h.2⟩) (fun h => ⟨h.1, m1 _ _ h.2⟩)⟩
/-- both orders end in one: J tells what both have made, and the world -/
theorem two_join {E : Act → World → Prop} {ks : List Bool} {l : List Oper} {oi oj : Oper} {a : Act} {w : World} (J : Value → Value → World → Prop) (hc : ∀ vi vj, (a.put oj.dst vj).put oi.dst vi = (a.put oi.dst vi).put oj.dst vj)
    (h1 : MixW P ops C (fun a' w' => ∃ vi vj, a' = (a.put oi.dst vi).put oj.dst vj ∧ J vi vj w') [false, false] [oi, oj] a w)
    (h2 : MixW P ops C (fun a' w' => ∃ vi vj, a' = (a.put oj.dst vj).put oi.dst vi ∧ J vi vj w') [false, false] [oj, oi] a w)
    (hE : ∀ vi vj w', J vi vj w' → MixW P ops C E ks l ((a.put oi.dst vi).put oj.dst vj) w') : MixW P ops C E (false :: false :: ks) (oi :: oj :: l) a w ∧ MixW P ops C E (false :: false :: ks) (oj :: oi :: l) a w := by
  refine ⟨⟨wpMix_two (wpMix_mono ?_ _ _ _ _ h1.go)⟩, ⟨wpMix_two (wpMix_mono ?_ _ _ _ _ h2.go)⟩⟩
  · rintro a' w' ⟨vi, vj, rfl, hj⟩
    exact (hE _ _ _ hj).go
  · rintro a' w' ⟨vi, vj, rfl, hj⟩
    rw [hc]
    exact (hE _ _ _ hj).go
/-- alone, by its own law -/
theorem mx_wp {E : Act → World → Prop} {ks : List Bool} {o : Oper} {rest : List Oper} {a : Act} {w : World} (hc : C w) (hw : Region.wanted o (yielded ops a.tmps) = true) (h : o.wp P a w (fun a' w' => MixW P ops C E ks rest a' w') Qz) : MixW P ops C E (false :: ks) (o :: rest) a w :=
  ⟨hc, .inl ⟨hw, Oper.wp_mono (fun _ _ h => h.go) h⟩⟩
end
end Go.Proofs.Ytdnljmncdbcgeaa

/- Drawn regions by a plan: operations that only tell, operations that are alone, and at forks either of two. No program. -/
namespace Go.Proofs.Ytdnljmncdbcgeaa
open Go.RowKit

inductive Plan where
  | done
  | tell (k : Nat) (p : Plan)
  | one (k : Nat) (p : Plan)
  | two (i : Nat) (p : Plan) (j : Nat) (q : Plan)
namespace Plan
def count : Plan → Nat
  | done => 0
  | tell _ p => p.count + 1
  | one _ p => p.count + 1
  | two _ p _ _ => p.count + 1
def ok (md : Region.Mode) (ops : Array Oper) (g m : Nat) : Plan → Array Bool → Bool
  | done, listed => Region.seqB md ops g m listed
  | tell k p, listed => decide (k < m) && (Region.ready md ops listed).contains k && Region.free md ops listed k && ok md ops g m p (listed.setIfInBounds k true)
  | one k p, listed => decide (k < m) && decide (Region.ready md ops listed = [k]) && ok md ops g m p (listed.setIfInBounds k true)
  | two i p j q, listed => decide (i < m) && decide (j < m) && decide (p.count = q.count) && decide (Region.ready md ops listed = [i, j]) && ok md ops g m p (listed.setIfInBounds i true) && ok md ops g m q (listed.setIfInBounds j true)
end Plan
section
variable {P : Program} {ops : Array Oper} {md : Region.Mode} {C : World → Prop}
/-- an operation that is alone -/
def aloneP (P : Program) (ops : Array Oper) (o : Oper) (K : Act → World → Prop) (a : Act) (w : World) : Prop :=
  (Region.wanted o (yielded ops a.tmps) = true ∧ o.wp P a w K Qz) ∨ (Region.wanted o (yielded ops a.tmps) = false ∧ K (a.put o.dst undef) w)
def wpPlan (P : Program) (ops : Array Oper) (C : World → Prop) (E : Act → World → Prop) : Plan → Act → World → Prop
  | .done, a, w => C w ∧ E a w
  | .tell k p, a, w => ∃ o v, ops[k]? = some o ∧ StC P ops C o v a ∧ wpPlan P ops C E p (a.put o.dst v) w
  | .one k p, a, w => C w ∧ ∃ o, ops[k]? = some o ∧ aloneP P ops o (wpPlan P ops C E p) a w
  | .two i p j q, a, w => C w ∧ (∃ o, ops[i]? = some o ∧ aloneP P ops o (wpPlan P ops C E p) a w) ∧ (∃ o, ops[j]? = some o ∧ aloneP P ops o (wpPlan P ops C E q) a w)
/-- nobody looks into it -/
structure PlanW (P : Program) (ops : Array Oper) (C : World → Prop) (E : Act → World → Prop) (p : Plan) (a : Act) (w : World) : Prop where
  go : wpPlan P ops C E p a w
theorem aloneP.wpOp {i : Nat} {o : Oper} {K K' : Act → World → Prop} {a : Act} {w : World} (hi : ops[i]? = some o) (hK : ∀ a' w', K a' w' → K' a' w') (h : aloneP P ops o K a w) : wpOp P ops Qz i K' a w := by
  unfold Go.wpOp
  simp only [hi]
  rcases h with ⟨hw, h⟩ | ⟨hw, h⟩
  · simp only [hw, if_true]
    exact .inl (Oper.wp_mono hK h)
  · simp only [hw, Bool.false_eq_true, if_false]
    exact hK _ _ h
theorem plan_any {m g : Nat} {Lq : Act → World → Prop} (hsel : ∀ (j : Nat) (o : Oper) cs b, ops[j]? = some o → o.op ≠ .select cs b) (hT : TailWaitsB md ops m) :
    ∀ (p : Plan) (listed : Array Bool) (a : Act) (w : World), HeadInv md ops m listed → p.ok md ops g m listed = true → wpPlan P ops C Lq p a w →
    wpAnyT P md ops C m (fun listed' a' w' => Region.seqB md ops g m listed' = true ∧ Lq a' w') p.count listed a w
  | .done, listed, a, w, _, hB, h => ⟨h.1, seqB_ready hB, hB, h.2⟩
  | .tell k p, listed, a, w, inv, hB, h => by
    simp only [Plan.ok, Bool.and_eq_true, decide_eq_true_eq] at hB
    obtain ⟨⟨⟨hkm, hr⟩, hf⟩, hB'⟩ := hB
    have hr' : k ∈ Region.ready md ops listed := by simpa using hr
    obtain ⟨o, v, h0, hy, h'⟩ := h
    exact wpAnyT_first h0 hkm hsel hT _ listed a w inv (Region.free_spec h0 hf) hr' hy (plan_any hsel hT p _ _ w (inv.set hr' hkm) hB' h')
  | .one k p, listed, a, w, inv, hB, h => by
    simp only [Plan.ok, Bool.and_eq_true, decide_eq_true_eq] at hB
    obtain ⟨⟨hkm, hr⟩, hB'⟩ := hB
    obtain ⟨hc, o, h0, h'⟩ := h
    refine ⟨hc, fun h1 => (by rw [hr] at h1; cases h1), fun i hi => ?_⟩
    have hi' := hi
    rw [hr] at hi
    obtain rfl : i = k := by simpa using hi
    exact ⟨hkm, h'.wpOp h0 fun a' w' h2 => plan_any hsel hT p _ a' w' (inv.set hi' hkm) hB' h2⟩
  | .two i p j q, listed, a, w, inv, hB, h => by
    simp only [Plan.ok, Bool.and_eq_true, decide_eq_true_eq] at hB
    obtain ⟨⟨⟨⟨⟨him, hjm⟩, hpq⟩, hr⟩, hp⟩, hq⟩ := hB
    obtain ⟨hc, ⟨oi, h0, h1⟩, ⟨oj, h2, h3⟩⟩ := h
    refine ⟨hc, fun h1 => (by rw [hr] at h1; cases h1), fun x hx => ?_⟩
    have hx' := hx
    rw [hr] at hx
    rcases List.mem_cons.1 hx with rfl | hx
    · exact ⟨him, h1.wpOp h0 fun a' w' h => plan_any hsel hT p _ a' w' (inv.set hx' him) hp h⟩
    · obtain rfl := List.mem_singleton.1 hx
      exact ⟨hjm, h3.wpOp h2 fun a' w' h => by
        have := plan_any hsel hT q _ a' w' (inv.set hx' hjm) hq h
        rw [hpq]
        exact this⟩
/-- the first operations by a plan, the rest one behind the other -/
theorem wp_region_plan {id : Nat} {Q : Exit → Act → World → Prop} {a : Act} {w : World} {l : List Oper} (p : Plan) (C : World → Prop) (E : Act → World → Prop) (hm : P.follows .mixedOrders = true)
    (hB : (tailOkB l.toArray p.count && p.ok .any l.toArray (l.toArray.size - p.count) p.count (Array.replicate l.toArray.size false)) = true)
    (h : PlanW P l.toArray C E p a w.drew) (hE : ∀ a' w', E a' w' → wpList P l.toArray Q (l.drop p.count) a' w') : (Code.region id l.toArray true).wp P Q a w := by
  rw [Bool.and_eq_true] at hB
  obtain ⟨hok, hlex⟩ := hB
  obtain ⟨hsel, hnl, hT⟩ := tailOkB_spec hok
  have hdl : (l.drop p.count).length = l.toArray.size - p.count := by simp
  have H := plan_any (P := P) (md := .any) (m := p.count) (g := l.toArray.size - p.count) (Region.noSelect_spec hsel) hT p _ a w.drew (inv_new p.count) hlex h.go
  refine wp_region_any hm ?_
  have := wpAny_of_T (Q := Q) (g := l.toArray.size - p.count) (fun listed a' w' hL => by
    have := wpAny_of_seq (md := .any) (Q' := Q) (l.drop p.count) p.count listed a' w' (fun j => by simp [List.getElem?_drop]) (by rw [hdl]; exact hL.1) (hE _ _ hL.2)
    rwa [hdl] at this) _ _ _ _ H
  rw [show p.count + (l.toArray.size - p.count) = l.toArray.size by simp at hnl ⊢; omega] at this
  exact this
variable {E : Act → World → Prop} {p q : Plan} {o : Oper} {a : Act} {w : World}
theorem pl_val {k : Nat} (h0 : ops[k]? = some o) (hw : Region.wanted o (yielded ops a.tmps) = true) (h : ∃ v, (∀ w, C w → (execOp a.eval o).run P w = .ok (.value v) w) ∧ ∃ a', a.put o.dst v = a' ∧ PlanW P ops C E p a' w) : PlanW P ops C E (.tell k p) a w := by
  obtain ⟨v, hv, a', ha, h⟩ := h
  exact ⟨o, v, h0, .inl ⟨hw, hv⟩, by rw [ha]; exact h.go⟩
theorem pl_move {k : Nat} (x : Operand) (h0 : ops[k]? = some o) (hw : Region.wanted o (yielded ops a.tmps) = true) (hop : o.op = .move x) (h : ∃ v, a.eval x = v ∧ ∃ a', a.put o.dst v = a' ∧ PlanW P ops C E p a' w) : PlanW P ops C E (.tell k p) a w := by
  obtain ⟨v, hv, h⟩ := h
  exact pl_val h0 hw ⟨v, fun w _ => by rw [BigFrame.run_move x hop, hv], h⟩
/-- one that is alone: what it does -/
structure AloneW (P : Program) (ops : Array Oper) (o : Oper) (K : Act → World → Prop) (a : Act) (w : World) : Prop where
  go : aloneP P ops o K a w
theorem pl_one {k : Nat} (h0 : ops[k]? = some o) (hc : C w) (h : AloneW P ops o (fun a' w' => PlanW P ops C E p a' w') a w) : PlanW P ops C E (.one k p) a w :=
  ⟨hc, o, h0, h.go.imp (fun h => ⟨h.1, Oper.wp_mono (fun _ _ h => h.go) h.2⟩) (fun h => ⟨h.1, h.2.go⟩)⟩
theorem pl_two {i j : Nat} {oj : Oper} (h0 : ops[i]? = some o) (h1 : ops[j]? = some oj) (hc : C w) (h : AloneW P ops o (fun a' w' => PlanW P ops C E p a' w') a w) (h' : AloneW P ops oj (fun a' w' => PlanW P ops C E q a' w') a w) : PlanW P ops C E (.two i p j q) a w :=
  ⟨hc, ⟨o, h0, h.go.imp (fun h => ⟨h.1, Oper.wp_mono (fun _ _ h => h.go) h.2⟩) (fun h => ⟨h.1, h.2.go⟩)⟩, ⟨oj, h1, h'.go.imp (fun h => ⟨h.1, Oper.wp_mono (fun _ _ h => h.go) h.2⟩) (fun h => ⟨h.1, h.2.go⟩)⟩⟩
theorem al_val {K : Act → World → Prop} (hw : Region.wanted o (yielded ops a.tmps) = true) (h : ∃ v w', (execOp a.eval o).run P w = .ok (.value v) w' ∧ ∃ a', a.put o.dst v = a' ∧ K a' w') : AloneW P ops o K a w := by
  obtain ⟨v, w', hv, a', ha, h⟩ := h
  refine ⟨.inl ⟨hw, ?_⟩⟩
  unfold Oper.wp
  rw [hv]
  show K (a.put o.dst v) w'
  rw [ha]
  exact h
theorem al_wp {K : Act → World → Prop} (hw : Region.wanted o (yielded ops a.tmps) = true) (h : o.wp P a w K Qz) : AloneW P ops o K a w := ⟨.inl ⟨hw, h⟩⟩
/-- alone: a store -/
theorem al_skip {K : Act → World → Prop} (hw : Region.wanted o (yielded ops a.tmps) = true) (h : ∃ w', (execOp a.eval o).run P w = .ok .skip w' ∧ ∃ a', a.put o.dst undef = a' ∧ K a' w') : AloneW P ops o K a w := by
  obtain ⟨w', hv, a', ha, h⟩ := h
  refine ⟨.inl ⟨hw, ?_⟩⟩
  unfold Oper.wp
  rw [hv]
  show K (a.put o.dst undef) w'
  rw [ha]
  exact h
/-- alone: a call -/
theorem al_call {K : Act → World → Prop} {f : FuncId} {args : Array Value} {R : Ending → World → Prop} (hw : Region.wanted o (yielded ops a.tmps) = true) (hv : (execOp a.eval o).run P w = .ok (.enter f args) w) (hcall : Calls P f args w R)
    (h : ∀ e w', R e w' → ∃ v, e = .returned v ∧ ∃ a', a.put o.dst v = a' ∧ K a' w') : AloneW P ops o K a w := by
  refine ⟨.inl ⟨hw, ?_⟩⟩
  unfold Oper.wp
  rw [hv]
  refine hcall.mono fun e w' he => ?_
  obtain ⟨v, rfl, a', ha, h⟩ := h e w' he
  show K (a.put o.dst v) w'
  rw [ha]
  exact h
/-- a plan without forks: what is behind it is walked on -/
theorem wp_region_line {id : Nat} {Q : Exit → Act → World → Prop} {a : Act} {w : World} {l : List Oper} (p : Plan) (C : World → Prop) (hm : P.follows .mixedOrders = true)
    (hB : (tailOkB l.toArray p.count && p.ok .any l.toArray (l.toArray.size - p.count) p.count (Array.replicate l.toArray.size false)) = true)
    (h : PlanW P l.toArray C (fun a' w' => wpList P l.toArray Q (l.drop p.count) a' w') p a w.drew) : (Code.region id l.toArray true).wp P Q a w := wp_region_plan p C _ hm hB h (fun _ _ h => h)
theorem pl_end (hc : C w) (h : E a w) : PlanW P ops C E .done a w := ⟨hc, h⟩
end
end Go.Proofs.Ytdnljmncdbcgeaa
