/- tenderref22: the document's book as a value; Get. -/
import Derived.Test.YtdnljmncdbcgeaaA07

namespace Go.Proofs.Ytdnljmncdbcgeaa
open Go.RowKit

/-- a row of entries, to be read -/
structure EsR (w : World) (A : Option Addr) (M : List EV) : Prop where
  rd : Rd w (fun _ => True) 4 A M.length (M.flatMap EV.cells)
  ok : ∀ x ∈ M, x.x.ok w (fun _ => True)
  len : M.length ≤ 1000000
theorem EsR.below {w w' : World} {A : Option Addr} {M : List EV} (h : EsR w A M) (k : Below w.heap.size w w') : EsR w' A M := ⟨h.rd.below k, fun x hx => (h.ok x hx).below k, h.len⟩
theorem ev_cells_len (x : EV) : x.cells.length = 4 := rfl
theorem EsR.at_ {w : World} {A : Option Addr} {M : List EV} {i : Nat} (h : EsR w A M) (hi : i < M.length) :
    ∃ b off, A = some ⟨b, off, none⟩ ∧ b < w.heap.size ∧ w.cell? ⟨b, off + i * 4, none⟩ = some (.string M[i].p) ∧ w.cell? ⟨b, off + i * 4 + 1, none⟩ = some (.int .u64 M[i].v) ∧ w.cell? ⟨b, off + i * 4 + 2, none⟩ = some (.int .i64 M[i].k) ∧ w.cell? ⟨b, off + i * 4 + 3, none⟩ = some (.slice M[i].x.A M[i].x.l.length M[i].x.c) := by
  obtain ⟨b, off, hA, _, hb, hc⟩ := h.rd.2 (by omega)
  have hg : ∀ j, j < 4 → (M.flatMap EV.cells)[i * 4 + j]? = (EV.cells M[i])[j]? := fun j hj => flat_get (k := 4) ev_cells_len M i j hi hj
  refine ⟨b, off, hA, hb, hc _ _ (hg 0 (by omega)), ?_, ?_, ?_⟩
  · rw [Nat.add_assoc]; exact hc _ _ (hg 1 (by omega))
  · rw [Nat.add_assoc]; exact hc _ _ (hg 2 (by omega))
  · rw [Nat.add_assoc]; exact hc _ _ (hg 3 (by omega))
/-- the first entry of a path, or one of nothing -/
def findE (p : ByteArray) : List EV → EV
  | [] => ⟨p, 0, 0, ⟨none, 0, []⟩⟩
  | x :: l => if x.p = p then x else findE p l
theorem findE_cons (p : ByteArray) (x : EV) (l : List EV) : findE p (x :: l) = if x.p = p then x else findE p l := rfl

set_option maxRecDepth 100000 in
set_option maxHeartbeats 1000000 in
theorem refGet22_any (A : Option Addr) (c : Nat) (M : List EV) (s : Int) (p : ByteArray) (w : World) (h : EsR w A M) :
    Calls Try.prog 21 #[.agg #[.int .u64 s, .slice A M.length c], .string p] w fun e w' => (∃ o : EV, e = .returned (.agg #[.string o.p, .int .u64 o.v, .int .i64 o.k, .slice o.x.A o.x.l.length o.x.c]) ∧ Hid (o = findE p M)) ∧ Below w.heap.size w w' := by
  have hw2 : Below w.heap.size w ((w.alloc (.cells #[.int .u64 s, .slice A M.length c] 33)).alloc (.cells #[.string ⟨#[]⟩, .int .u64 0, .int .i64 0, .slice none 0 0] 28)) := ((Below.refl _ _).alloc (Nat.le_refl _) _).alloc (by simp) _
  have x0 : Blk ((w.alloc (.cells #[.int .u64 s, .slice A M.length c] 33)).alloc (.cells #[.string ⟨#[]⟩, .int .u64 0, .int .i64 0, .slice none 0 0] 28)) w.heap.size 33 #[.int .u64 s, .slice A M.length c] := (Blk.new w 33 #[.int .u64 s, .slice A M.length c]).below ((Below.refl _ _).alloc (Nat.le_refl _) _)
  have x1 : Blk ((w.alloc (.cells #[.int .u64 s, .slice A M.length c] 33)).alloc (.cells #[.string ⟨#[]⟩, .int .u64 0, .int .i64 0, .slice none 0 0] 28)) (w.heap.size + 1) 28 #[.string ⟨#[]⟩, .int .u64 0, .int .i64 0, .slice none 0 0] := by
    have := Blk.new (w.alloc (.cells #[.int .u64 s, .slice A M.length c] 33)) 28 #[.string ⟨#[]⟩, .int .u64 0, .int .i64 0, .slice none 0 0]
    rwa [show (w.alloc (.cells #[.int .u64 s, .slice A M.length c] 33)).heap.size = w.heap.size + 1 by simp] at this
  have HF := Lib.hid (h.below hw2)
  have hlen := h.len
  clear h
  go_enter Try.func21, Try.ntmps21
  go_upto_region 1 with (fail)
  generalize ((w.alloc (.cells #[.int .u64 s, .slice A M.length c] 33)).alloc (.cells #[.string ⟨#[]⟩, .int .u64 0, .int .i64 0, .slice none 0 0] 28)) = w2 at *
  have b1 := x0.cell 1
  simp only [List.getElem?_toArray, List.getElem?_cons_zero, List.getElem?_cons_succ] at b1
  go_wp2_with fail
  go_loopw [5] (fun iv wr => ∃ i : Nat, i ≤ M.length ∧ iv = .int .i64 (i : Int) ∧ Hid (findE p M = findE p (M.drop i)) ∧ wr = w2) (fun iv _ => M.length - (intOf iv).toNat)
  case atStart => exact ⟨0, Nat.zero_le _, rfl, rfl, rfl⟩
  case round =>
    obtain ⟨i, hi, rfl, hg, rfl⟩ := hrel
    by_cases hlt : i < M.length
    · obtain ⟨b, off, hA, hbb, c0, c1, c2, c3⟩ := HF.out.at_ hlt
      have hd : M.drop i = M[i] :: M.drop (i + 1) := List.drop_eq_getElem_cons hlt
      have hg2 := hg.out
      rw [hd, findE_cons] at hg2
      generalize M[i] = o at *
      subst hA
      by_cases he : o.p = p
      · rw [if_pos he] at hg2
        have HG := Lib.hid (show o = findE p M from hg2.symm)
        have heq := eq_yes he
        have r0 := x1.cell 0
        have r1 := x1.cell 1
        have r2 := x1.cell 2
        have r3 := x1.cell 3
        simp only [List.getElem?_toArray, List.getElem?_cons_zero, List.getElem?_cons_succ] at r0 r1 r2 r3
        have fr := fun o => x1.frozen o
        clear hd hg2 hg he
        go_wp2_with fail
        have kR : Fr (fun x => x = w.heap.size + 1) wr ((((wr.setCell ⟨w.heap.size + 1, 0, none⟩ (.string o.p)).setCell ⟨w.heap.size + 1, 1, none⟩ (.int .u64 o.v)).setCell ⟨w.heap.size + 1, 2, none⟩ (.int .i64 o.k)).setCell ⟨w.heap.size + 1, 3, none⟩ (.slice o.x.A o.x.l.length o.x.c)) := (((((Fr.refl (fun x => x = w.heap.size + 1) wr).setAt (w.heap.size + 1) _ rfl _).setAt (w.heap.size + 1) _ rfl _).setAt (w.heap.size + 1) _ rfl _).setAt (w.heap.size + 1) _ rfl _)
        have yR := ((((x1.set_ 0 (.string o.p)).set_ 1 (.int .u64 o.v)).set_ 2 (.int .i64 o.k)).set_ 3 (.slice o.x.A o.x.l.length o.x.c))
        simp only [List.setIfInBounds_toArray, List.set_cons_zero, List.set_cons_succ] at yR
        have hwR : Below w.heap.size w ((((wr.setCell ⟨w.heap.size + 1, 0, none⟩ (.string o.p)).setCell ⟨w.heap.size + 1, 1, none⟩ (.int .u64 o.v)).setCell ⟨w.heap.size + 1, 2, none⟩ (.int .i64 o.k)).setCell ⟨w.heap.size + 1, 3, none⟩ (.slice o.x.A o.x.l.length o.x.c)) := hw2.trans (kR.below (B := w.heap.size) hw2.size (fun k hk e => by omega))
        generalize ((((wr.setCell ⟨w.heap.size + 1, 0, none⟩ (.string o.p)).setCell ⟨w.heap.size + 1, 1, none⟩ (.int .u64 o.v)).setCell ⟨w.heap.size + 1, 2, none⟩ (.int .i64 o.k)).setCell ⟨w.heap.size + 1, 3, none⟩ (.slice o.x.A o.x.l.length o.x.c)) = wR at *
        have s0 := yR.cell 0
        have s1 := yR.cell 1
        have s2 := yR.cell 2
        have s3 := yR.cell 3
        simp only [List.getElem?_toArray, List.getElem?_cons_zero, List.getElem?_cons_succ] at s0 s1 s2 s3
        refine bodyPost_ret (v := .agg #[.string o.p, .int .u64 o.v, .int .i64 o.k, .slice o.x.A o.x.l.length o.x.c]) (by simp [results, Try.results21, go_sem, s0, s1, s2, s3]) rfl ?_
        exact ⟨⟨o, rfl, HG.out⟩, hwR⟩
      · rw [if_neg he] at hg2
        have HG : Hid (findE p M = findE p (M.drop (i + 1))) := Lib.hid hg2
        have heq := eq_no he
        clear hd hg2 hg he c1 c2 c3
        go_wp2_with fail
        go_roundw
        case rel => exact ⟨i + 1, hlt, by go_num, HG.out, trivial⟩
        case measure => simp [intOf]; omega
    · have e : i = M.length := by omega
      subst e
      have HG : Hid (⟨p, 0, 0, ⟨none, 0, []⟩⟩ = findE p M) := Lib.hid (by rw [hg.out, List.drop_length]; rfl)
      have r0 := x1.cell 0
      have r1 := x1.cell 1
      have r2 := x1.cell 2
      have r3 := x1.cell 3
      simp only [List.getElem?_toArray, List.getElem?_cons_zero, List.getElem?_cons_succ] at r0 r1 r2 r3
      have fr := fun o => x1.frozen o
      clear hg
      go_wp2_with fail
      have kR : Fr (fun x => x = w.heap.size + 1) wr ((((wr.setCell ⟨w.heap.size + 1, 0, none⟩ (.string p)).setCell ⟨w.heap.size + 1, 1, none⟩ (.int .u64 0)).setCell ⟨w.heap.size + 1, 2, none⟩ (.int .i64 0)).setCell ⟨w.heap.size + 1, 3, none⟩ (.slice none 0 0)) := (((((Fr.refl (fun x => x = w.heap.size + 1) wr).setAt (w.heap.size + 1) _ rfl _).setAt (w.heap.size + 1) _ rfl _).setAt (w.heap.size + 1) _ rfl _).setAt (w.heap.size + 1) _ rfl _)
      have yR := ((((x1.set_ 0 (.string p)).set_ 1 (.int .u64 0)).set_ 2 (.int .i64 0)).set_ 3 (.slice none 0 0))
      simp only [List.setIfInBounds_toArray, List.set_cons_zero, List.set_cons_succ] at yR
      have hwR : Below w.heap.size w ((((wr.setCell ⟨w.heap.size + 1, 0, none⟩ (.string p)).setCell ⟨w.heap.size + 1, 1, none⟩ (.int .u64 0)).setCell ⟨w.heap.size + 1, 2, none⟩ (.int .i64 0)).setCell ⟨w.heap.size + 1, 3, none⟩ (.slice none 0 0)) := hw2.trans (kR.below (B := w.heap.size) hw2.size (fun k hk e => by omega))
      generalize ((((wr.setCell ⟨w.heap.size + 1, 0, none⟩ (.string p)).setCell ⟨w.heap.size + 1, 1, none⟩ (.int .u64 0)).setCell ⟨w.heap.size + 1, 2, none⟩ (.int .i64 0)).setCell ⟨w.heap.size + 1, 3, none⟩ (.slice none 0 0)) = wR at *
      have s0 := yR.cell 0
      have s1 := yR.cell 1
      have s2 := yR.cell 2
      have s3 := yR.cell 3
      simp only [List.getElem?_toArray, List.getElem?_cons_zero, List.getElem?_cons_succ] at s0 s1 s2 s3
      refine bodyPost_ret (v := .agg #[.string p, .int .u64 0, .int .i64 0, .slice none 0 0]) (by simp [results, Try.results21, go_sem, s0, s1, s2, s3]) rfl ?_
      exact ⟨⟨_, rfl, HG.out⟩, hwR⟩

end Go.Proofs.Ytdnljmncdbcgeaa

/- A row with one more, told from the left. No program. -/
namespace Go.Proofs.Ytdnljmncdbcgeaa

/-- something stands behind it -/
def behR {α : Type} (p : List UInt8) (L : List (List UInt8 × α)) : Bool := L.any fun x => decide (0 < cmpT x.1 p)
theorem ins_none {α : Type} (p : List UInt8) (v : α) : ∀ (L : List (List UInt8 × α)), behR p L = false → insR p v L = L ++ [(p, v)]
  | [], _ => rfl
  | x :: L, h => by
    simp only [behR, List.any_cons, Bool.or_eq_false_iff, decide_eq_false_iff_not] at h
    rw [insR, if_neg h.1, ins_none p v L h.2]
    rfl
theorem ins_here {α : Type} (p : List UInt8) (v : α) (x : List UInt8 × α) (hx : 0 < cmpT x.1 p) : ∀ (L : List (List UInt8 × α)), behR p L = false → insR p v (L ++ [x]) = L ++ [(p, v)] ++ [x]
  | [], _ => by rw [List.nil_append, insR, if_pos hx]; rfl
  | y :: L, h => by
    simp only [behR, List.any_cons, Bool.or_eq_false_iff, decide_eq_false_iff_not] at h
    rw [List.cons_append, insR, if_neg h.1, ins_here p v x hx L h.2]
    rfl
theorem ins_done {α : Type} (p : List UInt8) (v : α) (x : List UInt8 × α) : ∀ (L : List (List UInt8 × α)), behR p L = true → insR p v (L ++ [x]) = insR p v L ++ [x]
  | [], h => by simp [behR] at h
  | y :: L, h => by
    rw [List.cons_append, insR, insR]
    split
    · rfl
    · rename_i hy
      have : behR p L = true := by
        simp only [behR, List.any_cons, Bool.or_eq_true, decide_eq_true_eq] at h ⊢
        exact h.resolve_left hy
      rw [ins_done p v x L this]
      rfl
theorem beh_snoc {α : Type} (p : List UInt8) (L : List (List UInt8 × α)) (x : List UInt8 × α) : behR p (L ++ [x]) = (behR p L || decide (0 < cmpT x.1 p)) := by simp [behR]
/-- what Put has, of the first ones -/
def midR {α : Type} (p : List UInt8) (v : α) (L : List (List UInt8 × α)) : List (List UInt8 × α) := if behR p L = true then insR p v L else L
end Go.Proofs.Ytdnljmncdbcgeaa

/- tenderref03: less, bytes, Compare. -/
namespace Go.Proofs.Ytdnljmncdbcgeaa
open Go.RowKit

/-- how two numbers stand -/
def cmpN (a b : Int) : Int := if a < b then -1 else if b < a then 1 else 0
theorem less_any (a b : Int) (w : World) : Calls Try.prog 117 #[.int .i64 a, .int .i64 b] w fun e w' => e = .returned (.int .i64 (cmpN a b)) ∧ w = w' := by
  obtain ⟨R, hR⟩ : ∃ R, R = cmpN a b := ⟨_, rfl⟩
  rw [← hR]
  have HR := Lib.hid hR
  clear hR
  go_enter Try.func117, Try.ntmps117
  go_wp2_with fail
  all_goals
    go_ret
    refine ⟨ret_i ?_, rfl⟩
    rw [HR.out]
    unfold cmpN
    first
      | (rw [if_pos (by assumption)])
      | (rw [if_neg (by omega), if_pos (by assumption)])
      | (rw [if_neg (by omega), if_neg (by omega)])
/-- two texts that are alike so far stand as what is left of them -/
theorem cmpB_take : ∀ (i : Nat) (a b : List UInt8), a.take i = b.take i → i ≤ a.length → i ≤ b.length → cmpB a b = cmpB (a.drop i) (b.drop i)
  | 0, _, _, _, _, _ => rfl
  | i + 1, [], _, _, h, _ => by simp at h
  | i + 1, _ :: _, [], _, _, h => by simp at h
  | i + 1, x :: a, y :: b, h, ha, hb => by
    rw [List.take_succ_cons, List.take_succ_cons] at h
    injection h with h1 h2
    subst h1
    have ih := cmpB_take i a b h2 (by simpa using ha) (by simpa using hb)
    rw [List.drop_succ_cons, List.drop_succ_cons, ← ih]
    show cmpL cmp1 (x :: a) (x :: b) = _
    rw [cmpL, if_pos ((ord1.eq x x).2 rfl)]
    rfl
theorem cmpP_take : ∀ (i : Nat) (a b : List (List UInt8)), a.take i = b.take i → i ≤ a.length → i ≤ b.length → cmpP a b = cmpP (a.drop i) (b.drop i)
  | 0, _, _, _, _, _ => rfl
  | i + 1, [], _, _, h, _ => by simp at h
  | i + 1, _ :: _, [], _, _, h => by simp at h
  | i + 1, x :: a, y :: b, h, ha, hb => by
    rw [List.take_succ_cons, List.take_succ_cons] at h
    injection h with h1 h2
    subst h1
    have ih := cmpP_take i a b h2 (by simpa using ha) (by simpa using hb)
    rw [List.drop_succ_cons, List.drop_succ_cons, ← ih]
    show cmpL cmpB (x :: a) (x :: b) = _
    rw [cmpL, if_pos (cmpB_self x)]
    rfl
theorem cmpL_ends {α : Type} (c : α → α → Int) (a b : List α) (h : a = [] ∨ b = []) : cmpL c a b = cmpN a.length b.length := by
  rcases h with rfl | rfl
  · cases b with
    | nil => rfl
    | cons y b => simp [cmpL, cmpN]
  · cases a with
    | nil => rfl
    | cons y b => simp [cmpL, cmpN]; omega
theorem cmpN_add (a b k : Int) : cmpN (a + k) (b + k) = cmpN a b := by
  unfold cmpN
  split <;> split <;> first | rfl | omega | (split <;> first | rfl | omega)
theorem cmpB_hd {x y : UInt8} {a b : List UInt8} (h : cmp1 x y ≠ 0) : cmpB (x :: a) (y :: b) = cmp1 x y := by
  show cmpL cmp1 _ _ = _
  rw [cmpL, if_neg h]

set_option maxRecDepth 100000 in
set_option maxHeartbeats 1000000 in
theorem bytes_any (s t : ByteArray) (hs : s.size ≤ 1048576) (_ : t.size ≤ 1048576) (w : World) : Calls Try.prog 116 #[.string s, .string t] w fun e w' => e = .returned (.int .i64 (cmpB (tl s) (tl t))) ∧ Qt w w' := by
  obtain ⟨R, hR⟩ : ∃ R, R = cmpB (tl s) (tl t) := ⟨_, rfl⟩
  rw [← hR]
  have HR := Lib.hid hR
  clear hR
  go_enter Try.func116, Try.ntmps116
  go_wp2_with fail
  go_loopw [5] (fun iv wr => ∃ i : Nat, i ≤ s.size ∧ i ≤ t.size ∧ iv = .int .i64 (i : Int) ∧ Hid ((tl s).take i = (tl t).take i) ∧ Qt w wr) (fun iv _ => s.size - (intOf iv).toNat)
  case atStart => exact ⟨0, Nat.zero_le _, Nat.zero_le _, rfl, rfl, Qt.refl _⟩
  case round =>
    obtain ⟨i, hi, hj, rfl, hz, hq⟩ := hrel
    by_cases hlt : i < s.size ∧ i < t.size
    · obtain ⟨h1, h2⟩ := hlt
      have g1 : (tl s)[i]? = some s[i] := by rw [List.getElem?_eq_getElem (by rw [tl_len]; exact h1)]; rfl
      have g2 : (tl t)[i]? = some t[i] := by rw [List.getElem?_eq_getElem (by rw [tl_len]; exact h2)]; rfl
      have d1 : (tl s).drop i = s[i] :: (tl s).drop (i + 1) := by rw [List.drop_eq_getElem_cons (by rw [tl_len]; exact h1)]; rfl
      have d2 : (tl t).drop i = t[i] :: (tl t).drop (i + 1) := by rw [List.drop_eq_getElem_cons (by rw [tl_len]; exact h2)]; rfl
      have HC : Hid (∀ v, cmp1 s[i] t[i] = v → v ≠ 0 → R = v) := by
        intro v hv h0
        rw [HR.out, cmpB_take i _ _ hz.out (by rw [tl_len]; omega) (by rw [tl_len]; omega), d1, d2, cmpB_hd (by rw [hv]; exact h0), hv]
      have HN : Hid (s[i] = t[i] → (tl s).take (i + 1) = (tl t).take (i + 1)) := by
        intro e
        rw [List.take_add_one, List.take_add_one, hz.out, g1, g2, e]
      clear g1 g2 d1 d2 hz
      go_wp2_with fail
      go_quiet (fail)
      go_wp2_with fail
      · have hl : s[i].toNat < t[i].toNat := by assumption
        go_ret
        refine ⟨ret_i (HC.out _ (by unfold cmp1; rw [if_pos (by omega)]) (by omega)).symm, hq.trans ⟨_, rfl⟩⟩
      · have hl : ¬ s[i].toNat < t[i].toNat := by assumption
        go_quiet (fail)
        go_wp2_with fail
        · have hl2 : t[i].toNat < s[i].toNat := by assumption
          go_ret
          refine ⟨ret_i (HC.out _ (by unfold cmp1; rw [if_neg (by omega), if_pos (by omega)]) (by omega)).symm, (hq.trans ⟨_, rfl⟩).trans ⟨_, rfl⟩⟩
        · have hl2 : ¬ t[i].toNat < s[i].toNat := by assumption
          go_roundw
          case rel => exact ⟨i + 1, h1, h2, by go_num, HN.out (UInt8.toNat_inj.1 (by omega)), hq.trans ⟨_, rfl⟩⟩
          case measure => simp [intOf]; omega
    · have hor : (s.size : Int) ≤ (i : Int) ∨ (i : Int) < (s.size : Int) ∧ (t.size : Int) ≤ (i : Int) := by omega
      rcases hor with h1 | ⟨h1, h2⟩
      all_goals
        clear hlt
        go_wp2_with (go_at_call 117; refine (less_any _ _ _).mono ?_; rintro e w2 ⟨rfl, rfl⟩)
        go_ret
        refine ⟨ret_i ?_, hq⟩
        have e := HR.out
        rw [cmpB_take i _ _ hz.out (by rw [tl_len]; omega) (by rw [tl_len]; omega)] at e
        rw [e]
        unfold cmpB
        rw [cmpL_ends cmp1 _ _ (by
          rcases (show s.size ≤ i ∨ t.size ≤ i by omega) with h | h
          · exact .inl (List.drop_of_length_le (by rw [tl_len]; exact h))
          · exact .inr (List.drop_of_length_le (by rw [tl_len]; exact h))), List.length_drop, List.length_drop, tl_len, tl_len]
        have := cmpN_add ((s.size - i : Nat) : Int) ((t.size - i : Nat) : Int) (i : Int)
        rw [← this]
        congr 1 <;> omega

/-- how two rows stand when they are alike so far and then part -/
theorem cmpP_at {i : Nat} {a b : List (List UInt8)} {x y : List UInt8} (h : a.take i = b.take i) (hx : a[i]? = some x) (hy : b[i]? = some y) (hne : cmpB x y ≠ 0) : cmpP a b = cmpB x y := by
  obtain ⟨h1, rfl⟩ := List.getElem?_eq_some_iff.1 hx
  obtain ⟨h2, rfl⟩ := List.getElem?_eq_some_iff.1 hy
  rw [cmpP_take i a b h (by omega) (by omega), List.drop_eq_getElem_cons h1, List.drop_eq_getElem_cons h2]
  show cmpL cmpB _ _ = _
  rw [cmpL, if_neg hne]

set_option maxRecDepth 100000 in
set_option maxHeartbeats 1000000 in
theorem refCompare_any (s t : ByteArray) (hs : s.size ≤ 1048576) (ht : t.size ≤ 1048576) (w : World) : Calls Try.prog 62 #[.string s, .string t] w fun e w' => e = .returned (.int .i64 (cmpT (tl s) (tl t))) ∧ Below w.heap.size w w' := by
  obtain ⟨R, hR⟩ : ∃ R, R = cmpT (tl s) (tl t) := ⟨_, rfl⟩
  rw [← hR]
  have HR := Lib.hid hR
  clear hR
  go_enter Try.func62, Try.ntmps62
  go_wp2_with fail
  refine (refCut_any s hs _).mono ?_
  rintro e w1 ⟨A, c, x, rfl, hx, hsx, hb⟩
  go_wp2_with fail
  refine (refCut_any t ht _).mono ?_
  rintro e w2 ⟨A', c', y, rfl, hy, hsy, hb2⟩
  replace hsx := hsx.below hb2
  have hbb := bthen hb hb2
  have hxl : x.length ≤ 1048577 := by
    have := cutL_len (tl s)
    rw [hx.out]
    rw [tl_len] at this
    omega
  have hyl : y.length ≤ 1048577 := by
    have := cutL_len (tl t)
    rw [hy.out]
    rw [tl_len] at this
    omega
  have hxm : ∀ z ∈ x, z.length ≤ 1048576 := by
    intro z hz
    rw [hx.out] at hz
    have := cut_mem_len _ _ hz
    rw [tl_len] at this
    omega
  have hym : ∀ z ∈ y, z.length ≤ 1048576 := by
    intro z hz
    rw [hy.out] at hz
    have := cut_mem_len _ _ hz
    rw [tl_len] at this
    omega
  have HR2 : Hid (R = cmpP x y) := by show _ = _; rw [HR.out, hx.out, hy.out]; rfl
  clear HR hx hy hb hb2
  go_wp2_with fail
  go_loopw [7] (fun iv wr => ∃ i : Nat, i ≤ x.length ∧ i ≤ y.length ∧ iv = .int .i64 (i : Int) ∧ Hid (x.take i = y.take i) ∧ Qt w2 wr) (fun iv _ => x.length - (intOf iv).toNat)
  case atStart => exact ⟨0, Nat.zero_le _, Nat.zero_le _, rfl, rfl, Qt.refl _⟩
  case round =>
    obtain ⟨i, hi, hj, rfl, hz, hq⟩ := hrel
    by_cases hlt : i < x.length ∧ i < y.length
    · obtain ⟨h1, h2⟩ := hlt
      obtain ⟨xi, hxi⟩ : ∃ z, x[i]? = some z := ⟨_, List.getElem?_eq_getElem h1⟩
      obtain ⟨yi, hyi⟩ : ∃ z, y[i]? = some z := ⟨_, List.getElem?_eq_getElem h2⟩
      obtain ⟨g, off, rfl, hgb, hgl, hcell, hfz⟩ := (hsx.below hq.below).get hxi
      obtain ⟨g', off', rfl, hgb', hgl', hcell', hfz'⟩ := (hsy.below hq.below).get hyi
      obtain ⟨C, hC⟩ : ∃ C, C = cmpB xi yi := ⟨_, rfl⟩
      have HB : Hid (∀ w, Calls Try.prog 116 #[.string ⟨⟨xi⟩⟩, .string ⟨⟨yi⟩⟩] w fun e w' => e = .returned (.int .i64 C) ∧ Qt w w') := by
        intro w
        rw [hC]
        exact bytes_any ⟨⟨xi⟩⟩ ⟨⟨yi⟩⟩ (hxm _ (List.mem_of_getElem? hxi)) (hym _ (List.mem_of_getElem? hyi)) w
      have HC : Hid (C ≠ 0 → R = C) := by
        intro h0
        rw [HR2.out, cmpP_at hz.out hxi hyi (by rw [← hC]; exact h0), hC]
      have HN : Hid (C = 0 → x.take (i + 1) = y.take (i + 1)) := by
        intro e
        rw [hC] at e
        rw [List.take_add_one, List.take_add_one, hz.out, hxi, hyi, (ordB.eq _ _).1 e]
      clear hxi hyi hC hz hfz hfz'
      unfold stv at hcell hcell'
      go_wp2_with fail
      go_quiet ((go_at_call 116; exact Calls.quiet_of (HB.out _)))
      by_cases hC0 : C = 0
      · have HN2 := Lib.hid (HN.out hC0)
        subst hC0
        go_wp2_with fail
        go_roundw
        case rel => exact ⟨i + 1, h1, h2, by go_num, HN2.out, hq.trans ⟨_, rfl⟩⟩
        case measure => simp [intOf]; omega
      · have HN2 := Lib.hid (HC.out hC0)
        have hne : (C == 0) = false := by simpa using hC0
        have hne2 : (C != 0) = true := by simpa using hC0
        go_wp2_with fail
        go_ret
        exact ⟨ret_i HN2.out.symm, hbb.trans ((hq.trans ⟨_, rfl⟩).below.mono hbb.size)⟩
    · have hor : (x.length : Int) ≤ (i : Int) ∨ (i : Int) < (x.length : Int) ∧ (y.length : Int) ≤ (i : Int) := by omega
      rcases hor with h1 | ⟨h1, h2⟩
      all_goals
        clear hlt
        go_wp2_with (go_at_call 117; refine (less_any _ _ _).mono ?_; rintro e w2 ⟨rfl, rfl⟩)
        go_ret
        refine ⟨ret_i ?_, hbb.trans (hq.below.mono hbb.size)⟩
        have e := HR2.out
        rw [cmpP_take i _ _ hz.out (by omega) (by omega)] at e
        rw [e]
        unfold cmpP
        rw [cmpL_ends cmpB _ _ (by
          rcases (show x.length ≤ i ∨ y.length ≤ i by omega) with h | h
          · exact .inl (List.drop_of_length_le h)
          · exact .inr (List.drop_of_length_le h)), List.length_drop, List.length_drop]
        have := cmpN_add ((x.length - i : Nat) : Int) ((y.length - i : Nat) : Int) (i : Int)
        rw [← this]
        congr 1 <;> omega
end Go.Proofs.Ytdnljmncdbcgeaa

/- tenderref22: without, with. -/
namespace Go.Proofs.Ytdnljmncdbcgeaa
open Go.RowKit

/-- rows by their paths -/
def keyE (M : List EV) : List (List UInt8 × EV) := M.map fun y => (tl y.p, y)
theorem val_key (M : List EV) : (keyE M).map (·.2) = M := by simp [keyE, Function.comp_def]
theorem keyE_app (M : List EV) (y : EV) : keyE (M ++ [y]) = keyE M ++ [(tl y.p, y)] := by simp [keyE]
def withoutE (p : ByteArray) (M : List EV) : List EV := M.filter fun x => decide (x.p ≠ p)
def insE (x : EV) (M : List EV) : List EV := (insR (tl x.p) x (keyE M)).map (·.2)
def midE (x : EV) (M : List EV) : List EV := if behR (tl x.p) (keyE M) = true then insE x M else M
theorem insE_none {x : EV} {M : List EV} (h : behR (tl x.p) (keyE M) = false) : insE x M = M ++ [x] := by
  unfold insE
  rw [ins_none _ _ _ h, List.map_append, val_key]
  rfl
theorem insE_here {x y : EV} {M : List EV} (hx : 0 < cmpT (tl y.p) (tl x.p)) (h : behR (tl x.p) (keyE M) = false) : insE x (M ++ [y]) = M ++ [x] ++ [y] := by
  unfold insE
  rw [keyE_app, ins_here _ _ (tl y.p, y) hx _ h, List.map_append, List.map_append, val_key]
  rfl
theorem insE_done {x y : EV} {M : List EV} (h : behR (tl x.p) (keyE M) = true) : insE x (M ++ [y]) = insE x M ++ [y] := by
  unfold insE
  rw [keyE_app, ins_done _ _ (tl y.p, y) _ h, List.map_append]
  rfl
theorem pl_key (M : List EV) : (keyE M).map (fun z => (z.1, z.2.ep)) = M.map EV.pl := by
  unfold keyE
  rw [List.map_map]
  rfl
theorem pl_ins (x : EV) (M : List EV) : (insE x M).map EV.pl = insR (tl x.p) x.ep (M.map EV.pl) := by
  rw [← pl_key M, ins_map EV.ep]
  unfold insE
  rw [List.map_map]
  refine List.map_congr_left fun z hz => ?_
  have : z.1 = tl z.2.p := by
    rcases mem_ins.1 hz with rfl | hz
    · rfl
    · obtain ⟨y, _, rfl⟩ := List.mem_map.1 hz
      rfl
  show z.2.pl = _
  rw [this]
  rfl
theorem pl_without (p : ByteArray) (M : List EV) : (withoutE p M).map EV.pl = withoutR (M.map EV.pl) (tl p) := by
  unfold withoutE withoutR
  rw [List.filter_map]
  congr 1
  refine List.filter_congr fun x _ => ?_
  by_cases h : x.p = p
  · subst h; simp [EV.pl]
  · have : tl x.p ≠ tl p := fun e => h (tl_inj e)
    have h2 : (x.pl.1 == tl p) = false := by simpa [EV.pl] using fun e => h (tl_inj (congrArg Array.toList e))
    simp [h, h2]
theorem find_ver (p : ByteArray) : ∀ M : List EV, (findE p M).v = ((getR (M.map EV.pl) (tl p)).map (·.1)).getD 0
  | [] => rfl
  | x :: M => by
    rw [List.map_cons, getR_cons]
    unfold findE
    by_cases h : x.p = p
    · rw [if_pos h, if_pos (by rw [← h]; rfl)]; rfl
    · rw [if_neg h, if_neg (show ¬ x.pl.1 = tl p from fun e => h (tl_inj e)), find_ver p M]
theorem without_lenE (p : ByteArray) (M : List EV) : (withoutE p M).length ≤ M.length := List.length_filter_le _ _
theorem withoutE_snoc (M : List EV) (p : ByteArray) (i : Nat) (hi : i < M.length) : withoutE p (M.take (i + 1)) = withoutE p (M.take i) ++ if M[i].p = p then [] else [M[i]] := by
  unfold withoutE
  rw [List.take_succ_eq_append_getElem hi, List.filter_append]
  congr 1
  by_cases h : M[i].p = p
  · rw [if_pos h]; simp [h]
  · rw [if_neg h]; simp [h]
/-- entries told: a row of the call's own -/
def EnOwn (w : World) (base : Nat) (e : Ending) (M : List EV) : Prop :=
  ∃ (A : Option Addr) (c : Nat) (l : List EV), e = .returned (.slice A l.length c) ∧ Hid (l = M) ∧ OwE w base A c l
theorem OwE.below {w w' : World} {base : Nat} {A : Option Addr} {c : Nat} {L : List EV} (h : OwE w base A c L) (k : Below w.heap.size w w') : OwE w' base A c L := own_below h k
theorem OwE.esr {w : World} {base : Nat} {A : Option Addr} {c : Nat} {L : List EV} (h : OwE w base A c L) (hok : ∀ x ∈ L, x.x.ok w (fun _ => True)) (hl : L.length ≤ 1000000) : EsR w A L := ⟨Rd.of_own h (fun _ _ _ => trivial), hok, hl⟩

set_option maxRecDepth 100000 in
set_option maxHeartbeats 1000000 in
theorem refWithout22_any (A : Option Addr) (c : Nat) (M : List EV) (p : ByteArray) (w : World) (h : EsR w A M) :
    Calls Try.prog 51 #[.slice A M.length c, .string p] w fun e w' => EnOwn w' w.heap.size e (withoutE p M) ∧ Below w.heap.size w w' := by
  have HT := Lib.hid h
  have hlen := h.len
  clear h
  go_enter Try.func51, Try.ntmps51
  go_wp2_with fail
  go_loopw [5, 6] (fun ov iv wr => ∃ (i : Nat) (A' : Option Addr) (c' : Nat) (l : List EV), i ≤ M.length ∧ iv = .int .i64 (i : Int) ∧ ov = .slice A' l.length c' ∧ Hid (l = withoutE p (M.take i)) ∧ l.length ≤ i ∧ OwE wr w.heap.size A' c' l ∧ Below w.heap.size w wr) (fun _ iv _ => M.length - (intOf iv).toNat)
  case atStart => exact ⟨0, none, 0, [], Nat.zero_le _, rfl, rfl, rfl, Nat.le_refl _, World.ownsRow_nil _ _ _ _, Below.refl _ _⟩
  case round =>
    obtain ⟨i, A', c', l, hi, rfl, rfl, hl, hli, ho, hb⟩ := hrel
    by_cases hlt : i < M.length
    · have hsn := withoutE_snoc M p i hlt
      obtain ⟨b, off, hA, hbb, c0, c1, c2, c3⟩ := (HT.out.below hb).at_ hlt
      subst hA
      obtain ⟨x, hx⟩ : ∃ x, x = M[i] := ⟨_, rfl⟩
      rw [← hx] at c0 c1 c2 c3 hsn
      by_cases he : x.p = p
      · have hne := neq_yes he
        rw [if_pos he, List.append_nil, ← hl.out] at hsn
        have HN := Lib.hid hsn.symm
        clear hsn hl hx he
        go_wp2_with fail
        go_roundw
        case rel => exact ⟨i + 1, A', c', l, hlt, by go_num, rfl, HN, by omega, ho, hb⟩
        case measure => simp [intOf]; omega
      · have hne := neq_no he
        rw [if_neg he, ← hl.out] at hsn
        have HN := Lib.hid hsn.symm
        have hsz := hb.size
        have hba : Below w.heap.size w (wr.alloc (.cells #[.string x.p, .int .u64 x.v, .int .i64 x.k, .slice x.x.A x.x.l.length x.x.c] 28)) := hb.alloc hsz _
        have ho1 := Lib.hid (ho.below ((Below.refl _ wr).alloc (Nat.le_refl _) (.cells #[.string x.p, .int .u64 x.v, .int .i64 x.k, .slice x.x.A x.x.l.length x.x.c] 28)))
        have hr1 : Hid (Rd (wr.alloc (.cells #[.string x.p, .int .u64 x.v, .int .i64 x.k, .slice x.x.A x.x.l.length x.x.c] 28)) (fun _ => True) 4 (some ⟨wr.heap.size, 0, none⟩) 1 (EV.cells x)) := (Rd.lit (w := wr) (t := 28) (size := 4) (n := 1) (xs := EV.cells x) rfl rfl rfl).mono (fun _ _ _ => trivial)
        clear hsn hl hx he ho
        go_wp2_with (at_builtin; refine wpList_append_entry rfl (.tmp 20) (.tmp 25) (t := 22) rfl rfl rfl ho1.out rfl hr1.out (by omega) (by simp; omega) ?_; intro A5 c5 w5 ho5 hb5 hk5)
        have hb6 := hba.trans hb5
        go_roundw
        case rel => exact ⟨i + 1, A5, c5, l ++ [x], hlt, by go_num, by simp, HN, by simp; omega, ho5, hb6⟩
        case measure => simp [intOf]; omega
    · have e : i = M.length := by omega
      subst e
      have HN : Hid (l = withoutE p M) := by
        show _ = _
        rw [hl.out, List.take_length]
      clear hl
      go_wp2_with fail
      go_ret
      exact ⟨⟨A', c', l, rfl, HN, ho⟩, hb⟩


set_option maxRecDepth 100000 in
set_option maxHeartbeats 2000000 in
theorem refWith22_any (A : Option Addr) (c : Nat) (M : List EV) (v : EV) (w : World) (h : EsR w A M) (hp : v.p.size ≤ 1048576) (hM : ∀ x ∈ M, x.p.size ≤ 1048576) :
    Calls Try.prog 52 #[.slice A M.length c, .agg #[.string v.p, .int .u64 v.v, .int .i64 v.k, .slice v.x.A v.x.l.length v.x.c]] w fun e w' => EnOwn w' w.heap.size e (insE v M) ∧ Below w.heap.size w w' := by
  have hw1 : Below w.heap.size w (w.alloc (.cells #[.string v.p, .int .u64 v.v, .int .i64 v.k, .slice v.x.A v.x.l.length v.x.c] 28)) := (by repeat (first | exact Below.refl _ _ | refine Below.alloc ?_ (by simp) _ | refine Below.setCell ?_ (by simp) _ | refine Below.drew ?_))
  have x1 := Blk.new w 28 #[.string v.p, .int .u64 v.v, .int .i64 v.k, .slice v.x.A v.x.l.length v.x.c]
  have HI := Lib.hid (h.below hw1)
  have HP := Lib.hid hM
  have hlen := h.len
  clear h hM
  go_enter Try.func52, Try.ntmps52
  go_wp2_with fail
  generalize w.alloc (.cells #[.string v.p, .int .u64 v.v, .int .i64 v.k, .slice v.x.A v.x.l.length v.x.c] 28) = w1 at *
  go_loopw [5, 6, 7] (fun ov dv iv wr => ∃ (i : Nat) (A' : Option Addr) (c' : Nat) (l : List EV) (d : Bool), i ≤ M.length ∧ iv = .int .i64 (i : Int) ∧ dv = .bool d ∧ ov = .slice A' l.length c' ∧ Hid (d = behR (tl v.p) (keyE (M.take i))) ∧ Hid (l = midE v (M.take i)) ∧ l.length ≤ i + 1 ∧ OwE wr w1.heap.size A' c' l ∧ Below w1.heap.size w1 wr) (fun _ _ iv _ => M.length - (intOf iv).toNat)
  case atStart => exact ⟨0, none, 0, [], false, Nat.zero_le _, rfl, rfl, rfl, rfl, rfl, by simp, World.ownsRow_nil _ _ _ _, Below.refl _ _⟩
  case round =>
    obtain ⟨i, A', c', l, d, hi, rfl, rfl, rfl, hd, hl, hli, hor, hwr⟩ := hrel
    have HB : Hid (∀ W, Below w1.heap.size w1 W → W.cell? ⟨w.heap.size, 0, none⟩ = some (.string v.p) ∧ W.cell? ⟨w.heap.size, 1, none⟩ = some (.int .u64 v.v) ∧ W.cell? ⟨w.heap.size, 2, none⟩ = some (.int .i64 v.k) ∧ W.cell? ⟨w.heap.size, 3, none⟩ = some (.slice v.x.A v.x.l.length v.x.c)) := fun W hW => ⟨(x1.below hW).cell 0, (x1.below hW).cell 1, (x1.below hW).cell 2, (x1.below hW).cell 3⟩
    by_cases hlt : i < M.length
    · obtain ⟨b, off, hA, hbb, c0, d1, d2, d3⟩ := HI.out.at_ hlt
      have hxl := HP.out _ (List.getElem_mem hlt)
      subst hA
      have ht := List.take_succ_eq_append_getElem hlt
      obtain ⟨x, hx⟩ : ∃ x, x = M[i] := ⟨_, rfl⟩
      rw [← hx] at c0 d1 d2 d3 hxl ht
      have HX : Hid (∀ W, Below w1.heap.size w1 W → W.cell? ⟨b, off + i * 4, none⟩ = some (.string x.p) ∧ W.cell? ⟨b, off + i * 4 + 1, none⟩ = some (.int .u64 x.v) ∧ W.cell? ⟨b, off + i * 4 + 2, none⟩ = some (.int .i64 x.k) ∧ W.cell? ⟨b, off + i * 4 + 3, none⟩ = some (.slice x.x.A x.x.l.length x.x.c)) := by
        intro W hW
        rw [hW.cell hbb, hW.cell hbb, hW.cell hbb, hW.cell hbb]
        exact ⟨c0, d1, d2, d3⟩
      have ht2 : behR (tl v.p) (keyE (M.take (i + 1))) = (d || decide (0 < cmpT (tl x.p) (tl v.p))) := by
        rw [ht, keyE_app, beh_snoc, ← hd.out]
      clear c0 d1 d2 d3 hx
      cases d
      · have hb1 := hwr.size
        have HBH := Lib.hid hd.out
        have HL2 := Lib.hid hl.out
        obtain ⟨cm, hcm⟩ : ∃ cm, cm = cmpT (tl x.p) (tl v.p) := ⟨_, rfl⟩
        have HCM := Lib.hid (fun W => refCompare_any x.p v.p (by omega) (by omega) W)
        rw [← hcm] at HCM ht2
        clear hl hd
        go_upto_region 6 with (fail)
        have lm : l = M.take i := by
          rw [HL2.out]; unfold midE; rw [if_neg (by rw [← HBH.out]; simp)]
        have hli2 : l.length ≤ i := by rw [lm]; exact List.length_take_le _ _
        by_cases hc : 0 < cm
        · have hN : l ++ [v] ++ [x] = midE v (M.take (i + 1)) := by
            unfold midE
            rw [if_pos (by rw [ht2]; simp [hc]), ht, insE_here (by rw [← hcm]; exact hc) HBH.out.symm, lm]
          have HN := Lib.hid hN
          have HD : Hid (true = behR (tl v.p) (keyE (M.take (i + 1)))) := by
            show _ = _
            rw [ht2]; simp [hc]
          have hcd : decide (0 < cm) = true := decide_eq_true hc
          clear hcm
          refine wp_region_b 13 (by kernel_rfl) (by kernel_rfl) ?_
          simp only [List.take_succ_cons, List.take_zero, List.drop_succ_cons, List.drop_zero]
          refine lb_move _ (by kernel_rfl) rfl ⟨_, (by ((try simp [go_sem]); (try rfl); done)), _, (by (simp only [Act.put, List.setIfInBounds_toArray, List.set_cons_zero, List.set_cons_succ]; rfl)), ?_⟩
          refine lb_val (by kernel_rfl) ⟨_, (by (intro w' hC; clear hC; (try go_simp); (try with_reducible rfl); done)), _, (by (simp only [Act.put, List.setIfInBounds_toArray, List.set_cons_zero, List.set_cons_succ]; rfl)), ?_⟩
          refine lb_move _ (by kernel_rfl) rfl ⟨_, (by ((try simp [go_sem]); (try rfl); done)), _, (by (simp only [Act.put, List.setIfInBounds_toArray, List.set_cons_zero, List.set_cons_succ]; rfl)), ?_⟩
          first | (refine lb_skip (by rfl) ⟨_, (by (simp only [Act.put, List.setIfInBounds_toArray, List.set_cons_zero, List.set_cons_succ]; rfl)), ?_⟩) | (refine lb_move _ (by kernel_rfl) rfl ⟨_, (by ((try simp [go_sem]); (try rfl); done)), _, (by (simp only [Act.put, List.setIfInBounds_toArray, List.set_cons_zero, List.set_cons_succ]; rfl)), ?_⟩)
          first | (refine lb_skip (by rfl) ⟨_, (by (simp only [Act.put, List.setIfInBounds_toArray, List.set_cons_zero, List.set_cons_succ]; rfl)), ?_⟩) | (refine lb_move _ (by kernel_rfl) rfl ⟨_, (by ((try simp [go_sem]); (try rfl); done)), _, (by (simp only [Act.put, List.setIfInBounds_toArray, List.set_cons_zero, List.set_cons_succ]; rfl)), ?_⟩)
          first | (refine lb_skip (by rfl) ⟨_, (by (simp only [Act.put, List.setIfInBounds_toArray, List.set_cons_zero, List.set_cons_succ]; rfl)), ?_⟩) | (refine lb_val (by kernel_rfl) ⟨_, (by (intro w' hC; clear hC; (try go_simp); (try with_reducible rfl); done)), _, (by (simp only [Act.put, List.setIfInBounds_toArray, List.set_cons_zero, List.set_cons_succ]; rfl)), ?_⟩)
          first | (refine lb_skip (by rfl) ⟨_, (by (simp only [Act.put, List.setIfInBounds_toArray, List.set_cons_zero, List.set_cons_succ]; rfl)), ?_⟩) | (refine lb_val (by kernel_rfl) ⟨_, (by (intro w' hC; clear hC; (try go_simp); (try with_reducible rfl); done)), _, (by (simp only [Act.put, List.setIfInBounds_toArray, List.set_cons_zero, List.set_cons_succ]; rfl)), ?_⟩)
          first | (refine lb_skip (by rfl) ⟨_, (by (simp only [Act.put, List.setIfInBounds_toArray, List.set_cons_zero, List.set_cons_succ]; rfl)), ?_⟩) | (refine lb_val (by kernel_rfl) ⟨_, (by (intro w' hC; (have ⟨c0, _, _, _⟩ := HX.out w' (hwr.trans (hC.mono hwr.size))); clear hC; (try go_simp); (try with_reducible rfl); done)), _, (by (simp only [Act.put, List.setIfInBounds_toArray, List.set_cons_zero, List.set_cons_succ]; rfl)), ?_⟩)
          first | (refine lb_skip (by rfl) ⟨_, (by (simp only [Act.put, List.setIfInBounds_toArray, List.set_cons_zero, List.set_cons_succ]; rfl)), ?_⟩) | (refine lb_val (by kernel_rfl) ⟨_, (by (intro w' hC; clear hC; (try go_simp); (try with_reducible rfl); done)), _, (by (simp only [Act.put, List.setIfInBounds_toArray, List.set_cons_zero, List.set_cons_succ]; rfl)), ?_⟩)
          first | (refine lb_skip (by rfl) ⟨_, (by (simp only [Act.put, List.setIfInBounds_toArray, List.set_cons_zero, List.set_cons_succ]; rfl)), ?_⟩) | (refine lb_val (by kernel_rfl) ⟨_, (by (intro w' hC; (have ⟨q0, _, _, _⟩ := HB.out w' (hwr.trans (hC.mono hwr.size))); clear hC; (try go_simp); (try with_reducible rfl); done)), _, (by (simp only [Act.put, List.setIfInBounds_toArray, List.set_cons_zero, List.set_cons_succ]; rfl)), ?_⟩)
          first | (refine lb_skip (by rfl) ⟨_, (by (simp only [Act.put, List.setIfInBounds_toArray, List.set_cons_zero, List.set_cons_succ]; rfl)), ?_⟩) | (refine lb_call (by kernel_rfl) (fun w' hC => HCM.out _) (by (intro w'; go_simp; done)) ⟨_, (by (simp only [Act.put, List.setIfInBounds_toArray, List.set_cons_zero, List.set_cons_succ]; rfl)), ?_⟩)
          first | (refine lb_skip (by rfl) ⟨_, (by (simp only [Act.put, List.setIfInBounds_toArray, List.set_cons_zero, List.set_cons_succ]; rfl)), ?_⟩) | (refine lb_val (by kernel_rfl) ⟨_, (by (intro w' hC; clear hC; (try go_simp); (try with_reducible rfl); done)), _, (by (simp only [Act.put, List.setIfInBounds_toArray, List.set_cons_zero, List.set_cons_succ]; rfl)), ?_⟩)
          refine lb_val (by kernel_rfl) ⟨_, (by (intro w' hC; clear hC; (try go_simp); (try with_reducible rfl); done)), _, (by (simp only [Act.put, List.setIfInBounds_toArray, List.set_cons_zero, List.set_cons_succ]; rfl)), ?_⟩
          refine .nil ?_
          intro w2 hb2
          have hw2 := hwr.trans (hb2.mono hb1)
          have ho2 := hor.below hb2
          have hs2 := hw2.size
          clear hor hb2 HCM
          obtain ⟨q0, q1, q2, q3⟩ := HB.out w2 hw2
          have ba1 : Below w1.heap.size w1 (w2.alloc (.cells #[.string v.p, .int .u64 v.v, .int .i64 v.k, .slice v.x.A v.x.l.length v.x.c] 28)) := hw2.alloc hw2.size _; have oa1 := Lib.hid (ho2.below ((Below.refl _ w2).alloc (Nat.le_refl _) (.cells #[.string v.p, .int .u64 v.v, .int .i64 v.k, .slice v.x.A v.x.l.length v.x.c] 28))); have ra1 : Hid (Rd (w2.alloc (.cells #[.string v.p, .int .u64 v.v, .int .i64 v.k, .slice v.x.A v.x.l.length v.x.c] 28)) (fun _ => True) 4 (some ⟨w2.heap.size, 0, none⟩) 1 (EV.cells v)) := (Rd.lit (w := w2) (t := 28) (size := 4) (n := 1) (xs := EV.cells v) rfl rfl rfl).mono (fun _ _ _ => trivial)
          clear hN lm HL2 HBH ht2 ht ho2 HI x1
          go_wp2_with (first | (at_builtin; refine wpList_append_entry rfl (.tmp 27) (.tmp 29) (t := 22) rfl rfl rfl oa1.out rfl ra1.out (by simp; omega) ba1.size ?_; intro A5 c5 w5 ho5 hb5 _; have hw5 := ba1.trans hb5; obtain ⟨c0, c1', c2, c3⟩ := HX.out w5 hw5; clear oa1 ra1; have ba2 : Below w1.heap.size w1 (w5.alloc (.cells #[.string x.p, .int .u64 x.v, .int .i64 x.k, .slice x.x.A x.x.l.length x.x.c] 28)) := hw5.alloc hw5.size _; have oa2 := Lib.hid (ho5.below ((Below.refl _ w5).alloc (Nat.le_refl _) (.cells #[.string x.p, .int .u64 x.v, .int .i64 x.k, .slice x.x.A x.x.l.length x.x.c] 28))); have ra2 : Hid (Rd (w5.alloc (.cells #[.string x.p, .int .u64 x.v, .int .i64 x.k, .slice x.x.A x.x.l.length x.x.c] 28)) (fun _ => True) 4 (some ⟨w5.heap.size, 0, none⟩) 1 (EV.cells x)) := (Rd.lit (w := w5) (t := 28) (size := 4) (n := 1) (xs := EV.cells x) rfl rfl rfl).mono (fun _ _ _ => trivial)) | (at_builtin; refine wpList_append_entry rfl (.tmp 31) (.tmp 36) (t := 22) rfl rfl (by rw [List.length_append]; rfl) oa2.out rfl ra2.out (by simp; omega) ba2.size ?_; intro A7 c7 w7 ho7 hb7 _; have hw7 := ba2.trans hb7))
          go_roundw
          case rel => exact ⟨i + 1, A7, c7, l ++ [v] ++ [x], true, hlt, by go_num, rfl, by simp, HD, HN, by simp; omega, ho7, hw7⟩
          case measure => simp [intOf]; omega
        · have hN : l ++ [x] = midE v (M.take (i + 1)) := by
            unfold midE
            rw [if_neg (by rw [ht2]; simp [hc]), ht, lm]
          have HN := Lib.hid hN
          have HD : Hid (false = behR (tl v.p) (keyE (M.take (i + 1)))) := by
            show _ = _
            rw [ht2]; simp [hc]
          have hcd : decide (0 < cm) = false := decide_eq_false hc
          clear hcm
          refine wp_region_b 13 (by kernel_rfl) (by kernel_rfl) ?_
          simp only [List.take_succ_cons, List.take_zero, List.drop_succ_cons, List.drop_zero]
          refine lb_move _ (by kernel_rfl) rfl ⟨_, (by ((try simp [go_sem]); (try rfl); done)), _, (by (simp only [Act.put, List.setIfInBounds_toArray, List.set_cons_zero, List.set_cons_succ]; rfl)), ?_⟩
          refine lb_val (by kernel_rfl) ⟨_, (by (intro w' hC; clear hC; (try go_simp); (try with_reducible rfl); done)), _, (by (simp only [Act.put, List.setIfInBounds_toArray, List.set_cons_zero, List.set_cons_succ]; rfl)), ?_⟩
          refine lb_move _ (by kernel_rfl) rfl ⟨_, (by ((try simp [go_sem]); (try rfl); done)), _, (by (simp only [Act.put, List.setIfInBounds_toArray, List.set_cons_zero, List.set_cons_succ]; rfl)), ?_⟩
          first | (refine lb_skip (by rfl) ⟨_, (by (simp only [Act.put, List.setIfInBounds_toArray, List.set_cons_zero, List.set_cons_succ]; rfl)), ?_⟩) | (refine lb_move _ (by kernel_rfl) rfl ⟨_, (by ((try simp [go_sem]); (try rfl); done)), _, (by (simp only [Act.put, List.setIfInBounds_toArray, List.set_cons_zero, List.set_cons_succ]; rfl)), ?_⟩)
          first | (refine lb_skip (by rfl) ⟨_, (by (simp only [Act.put, List.setIfInBounds_toArray, List.set_cons_zero, List.set_cons_succ]; rfl)), ?_⟩) | (refine lb_move _ (by kernel_rfl) rfl ⟨_, (by ((try simp [go_sem]); (try rfl); done)), _, (by (simp only [Act.put, List.setIfInBounds_toArray, List.set_cons_zero, List.set_cons_succ]; rfl)), ?_⟩)
          first | (refine lb_skip (by rfl) ⟨_, (by (simp only [Act.put, List.setIfInBounds_toArray, List.set_cons_zero, List.set_cons_succ]; rfl)), ?_⟩) | (refine lb_val (by kernel_rfl) ⟨_, (by (intro w' hC; clear hC; (try go_simp); (try with_reducible rfl); done)), _, (by (simp only [Act.put, List.setIfInBounds_toArray, List.set_cons_zero, List.set_cons_succ]; rfl)), ?_⟩)
          first | (refine lb_skip (by rfl) ⟨_, (by (simp only [Act.put, List.setIfInBounds_toArray, List.set_cons_zero, List.set_cons_succ]; rfl)), ?_⟩) | (refine lb_val (by kernel_rfl) ⟨_, (by (intro w' hC; clear hC; (try go_simp); (try with_reducible rfl); done)), _, (by (simp only [Act.put, List.setIfInBounds_toArray, List.set_cons_zero, List.set_cons_succ]; rfl)), ?_⟩)
          first | (refine lb_skip (by rfl) ⟨_, (by (simp only [Act.put, List.setIfInBounds_toArray, List.set_cons_zero, List.set_cons_succ]; rfl)), ?_⟩) | (refine lb_val (by kernel_rfl) ⟨_, (by (intro w' hC; (have ⟨c0, _, _, _⟩ := HX.out w' (hwr.trans (hC.mono hwr.size))); clear hC; (try go_simp); (try with_reducible rfl); done)), _, (by (simp only [Act.put, List.setIfInBounds_toArray, List.set_cons_zero, List.set_cons_succ]; rfl)), ?_⟩)
          first | (refine lb_skip (by rfl) ⟨_, (by (simp only [Act.put, List.setIfInBounds_toArray, List.set_cons_zero, List.set_cons_succ]; rfl)), ?_⟩) | (refine lb_val (by kernel_rfl) ⟨_, (by (intro w' hC; clear hC; (try go_simp); (try with_reducible rfl); done)), _, (by (simp only [Act.put, List.setIfInBounds_toArray, List.set_cons_zero, List.set_cons_succ]; rfl)), ?_⟩)
          first | (refine lb_skip (by rfl) ⟨_, (by (simp only [Act.put, List.setIfInBounds_toArray, List.set_cons_zero, List.set_cons_succ]; rfl)), ?_⟩) | (refine lb_val (by kernel_rfl) ⟨_, (by (intro w' hC; (have ⟨q0, _, _, _⟩ := HB.out w' (hwr.trans (hC.mono hwr.size))); clear hC; (try go_simp); (try with_reducible rfl); done)), _, (by (simp only [Act.put, List.setIfInBounds_toArray, List.set_cons_zero, List.set_cons_succ]; rfl)), ?_⟩)
          first | (refine lb_skip (by rfl) ⟨_, (by (simp only [Act.put, List.setIfInBounds_toArray, List.set_cons_zero, List.set_cons_succ]; rfl)), ?_⟩) | (refine lb_call (by kernel_rfl) (fun w' hC => HCM.out _) (by (intro w'; go_simp; done)) ⟨_, (by (simp only [Act.put, List.setIfInBounds_toArray, List.set_cons_zero, List.set_cons_succ]; rfl)), ?_⟩)
          first | (refine lb_skip (by rfl) ⟨_, (by (simp only [Act.put, List.setIfInBounds_toArray, List.set_cons_zero, List.set_cons_succ]; rfl)), ?_⟩) | (refine lb_val (by kernel_rfl) ⟨_, (by (intro w' hC; clear hC; (try go_simp); (try with_reducible rfl); done)), _, (by (simp only [Act.put, List.setIfInBounds_toArray, List.set_cons_zero, List.set_cons_succ]; rfl)), ?_⟩)
          refine lb_val (by kernel_rfl) ⟨_, (by (intro w' hC; clear hC; (try go_simp); (try with_reducible rfl); done)), _, (by (simp only [Act.put, List.setIfInBounds_toArray, List.set_cons_zero, List.set_cons_succ]; rfl)), ?_⟩
          refine .nil ?_
          intro w2 hb2
          have hw2 := hwr.trans (hb2.mono hb1)
          have ho2 := hor.below hb2
          have hs2 := hw2.size
          clear hor hb2 HCM
          obtain ⟨c0, c1', c2, c3⟩ := HX.out w2 hw2
          have ba1 : Below w1.heap.size w1 (w2.alloc (.cells #[.string x.p, .int .u64 x.v, .int .i64 x.k, .slice x.x.A x.x.l.length x.x.c] 28)) := hw2.alloc hw2.size _; have oa1 := Lib.hid (ho2.below ((Below.refl _ w2).alloc (Nat.le_refl _) (.cells #[.string x.p, .int .u64 x.v, .int .i64 x.k, .slice x.x.A x.x.l.length x.x.c] 28))); have ra1 : Hid (Rd (w2.alloc (.cells #[.string x.p, .int .u64 x.v, .int .i64 x.k, .slice x.x.A x.x.l.length x.x.c] 28)) (fun _ => True) 4 (some ⟨w2.heap.size, 0, none⟩) 1 (EV.cells x)) := (Rd.lit (w := w2) (t := 28) (size := 4) (n := 1) (xs := EV.cells x) rfl rfl rfl).mono (fun _ _ _ => trivial)
          clear hN lm HL2 HBH ht2 ht ho2 HI x1
          go_wp2_with (at_builtin; refine wpList_append_entry rfl (.tmp 31) (.tmp 36) (t := 22) rfl rfl rfl oa1.out rfl ra1.out (by simp; omega) ba1.size ?_; intro A5 c5 w5 ho5 hb5 _; have hw5 := ba1.trans hb5)
          go_roundw
          case rel => exact ⟨i + 1, A5, c5, l ++ [x], false, hlt, by go_num, rfl, by simp, HD, HN, by simp; omega, ho5, hw5⟩
          case measure => simp [intOf]; omega
      · have hb1 := hwr.size
        have hN : l ++ [x] = midE v (M.take (i + 1)) := by
          unfold midE
          rw [if_pos (by rw [ht2]; simp), ht, insE_done hd.out.symm, hl.out]
          unfold midE
          rw [if_pos hd.out.symm]
        have HN := Lib.hid hN
        have HD : Hid (true = behR (tl v.p) (keyE (M.take (i + 1)))) := by
          show _ = _
          rw [ht2]; simp
        have HCM : Hid True := trivial
        clear ht2 ht hl hd hN
        go_upto_region 6 with (fail)
        refine wp_region_b 13 (by kernel_rfl) (by kernel_rfl) ?_
        simp only [List.take_succ_cons, List.take_zero, List.drop_succ_cons, List.drop_zero]
        refine lb_move _ (by kernel_rfl) rfl ⟨_, (by ((try simp [go_sem]); (try rfl); done)), _, (by (simp only [Act.put, List.setIfInBounds_toArray, List.set_cons_zero, List.set_cons_succ]; rfl)), ?_⟩
        refine lb_val (by kernel_rfl) ⟨_, (by (intro w' hC; clear hC; (try go_simp); (try with_reducible rfl); done)), _, (by (simp only [Act.put, List.setIfInBounds_toArray, List.set_cons_zero, List.set_cons_succ]; rfl)), ?_⟩
        refine lb_move _ (by kernel_rfl) rfl ⟨_, (by ((try simp [go_sem]); (try rfl); done)), _, (by (simp only [Act.put, List.setIfInBounds_toArray, List.set_cons_zero, List.set_cons_succ]; rfl)), ?_⟩
        first | (refine lb_skip (by rfl) ⟨_, (by (simp only [Act.put, List.setIfInBounds_toArray, List.set_cons_zero, List.set_cons_succ]; rfl)), ?_⟩) | (refine lb_move _ (by kernel_rfl) rfl ⟨_, (by ((try simp [go_sem]); (try rfl); done)), _, (by (simp only [Act.put, List.setIfInBounds_toArray, List.set_cons_zero, List.set_cons_succ]; rfl)), ?_⟩)
        first | (refine lb_skip (by rfl) ⟨_, (by (simp only [Act.put, List.setIfInBounds_toArray, List.set_cons_zero, List.set_cons_succ]; rfl)), ?_⟩) | (refine lb_move _ (by kernel_rfl) rfl ⟨_, (by ((try simp [go_sem]); (try rfl); done)), _, (by (simp only [Act.put, List.setIfInBounds_toArray, List.set_cons_zero, List.set_cons_succ]; rfl)), ?_⟩)
        first | (refine lb_skip (by rfl) ⟨_, (by (simp only [Act.put, List.setIfInBounds_toArray, List.set_cons_zero, List.set_cons_succ]; rfl)), ?_⟩) | (refine lb_val (by kernel_rfl) ⟨_, (by (intro w' hC; clear hC; (try go_simp); (try with_reducible rfl); done)), _, (by (simp only [Act.put, List.setIfInBounds_toArray, List.set_cons_zero, List.set_cons_succ]; rfl)), ?_⟩)
        first | (refine lb_skip (by rfl) ⟨_, (by (simp only [Act.put, List.setIfInBounds_toArray, List.set_cons_zero, List.set_cons_succ]; rfl)), ?_⟩) | (refine lb_val (by kernel_rfl) ⟨_, (by (intro w' hC; clear hC; (try go_simp); (try with_reducible rfl); done)), _, (by (simp only [Act.put, List.setIfInBounds_toArray, List.set_cons_zero, List.set_cons_succ]; rfl)), ?_⟩)
        first | (refine lb_skip (by rfl) ⟨_, (by (simp only [Act.put, List.setIfInBounds_toArray, List.set_cons_zero, List.set_cons_succ]; rfl)), ?_⟩) | (refine lb_val (by kernel_rfl) ⟨_, (by (intro w' hC; (have ⟨c0, _, _, _⟩ := HX.out w' (hwr.trans (hC.mono hwr.size))); clear hC; (try go_simp); (try with_reducible rfl); done)), _, (by (simp only [Act.put, List.setIfInBounds_toArray, List.set_cons_zero, List.set_cons_succ]; rfl)), ?_⟩)
        first | (refine lb_skip (by rfl) ⟨_, (by (simp only [Act.put, List.setIfInBounds_toArray, List.set_cons_zero, List.set_cons_succ]; rfl)), ?_⟩) | (refine lb_val (by kernel_rfl) ⟨_, (by (intro w' hC; clear hC; (try go_simp); (try with_reducible rfl); done)), _, (by (simp only [Act.put, List.setIfInBounds_toArray, List.set_cons_zero, List.set_cons_succ]; rfl)), ?_⟩)
        first | (refine lb_skip (by rfl) ⟨_, (by (simp only [Act.put, List.setIfInBounds_toArray, List.set_cons_zero, List.set_cons_succ]; rfl)), ?_⟩) | (refine lb_val (by kernel_rfl) ⟨_, (by (intro w' hC; (have ⟨q0, _, _, _⟩ := HB.out w' (hwr.trans (hC.mono hwr.size))); clear hC; (try go_simp); (try with_reducible rfl); done)), _, (by (simp only [Act.put, List.setIfInBounds_toArray, List.set_cons_zero, List.set_cons_succ]; rfl)), ?_⟩)
        first | (refine lb_skip (by rfl) ⟨_, (by (simp only [Act.put, List.setIfInBounds_toArray, List.set_cons_zero, List.set_cons_succ]; rfl)), ?_⟩) | (refine lb_call (by kernel_rfl) (fun w' hC => HCM.out _) (by (intro w'; go_simp; done)) ⟨_, (by (simp only [Act.put, List.setIfInBounds_toArray, List.set_cons_zero, List.set_cons_succ]; rfl)), ?_⟩)
        first | (refine lb_skip (by rfl) ⟨_, (by (simp only [Act.put, List.setIfInBounds_toArray, List.set_cons_zero, List.set_cons_succ]; rfl)), ?_⟩) | (refine lb_val (by kernel_rfl) ⟨_, (by (intro w' hC; clear hC; (try go_simp); (try with_reducible rfl); done)), _, (by (simp only [Act.put, List.setIfInBounds_toArray, List.set_cons_zero, List.set_cons_succ]; rfl)), ?_⟩)
        refine lb_val (by kernel_rfl) ⟨_, (by (intro w' hC; clear hC; (try go_simp); (try with_reducible rfl); done)), _, (by (simp only [Act.put, List.setIfInBounds_toArray, List.set_cons_zero, List.set_cons_succ]; rfl)), ?_⟩
        refine .nil ?_
        intro w2 hb2
        have hw2 := hwr.trans (hb2.mono hb1)
        have ho2 := hor.below hb2
        clear hor hb2
        obtain ⟨c0, c1', c2, c3⟩ := HX.out w2 hw2
        have ba1 : Below w1.heap.size w1 (w2.alloc (.cells #[.string x.p, .int .u64 x.v, .int .i64 x.k, .slice x.x.A x.x.l.length x.x.c] 28)) := hw2.alloc hw2.size _; have oa1 := Lib.hid (ho2.below ((Below.refl _ w2).alloc (Nat.le_refl _) (.cells #[.string x.p, .int .u64 x.v, .int .i64 x.k, .slice x.x.A x.x.l.length x.x.c] 28))); have ra1 : Hid (Rd (w2.alloc (.cells #[.string x.p, .int .u64 x.v, .int .i64 x.k, .slice x.x.A x.x.l.length x.x.c] 28)) (fun _ => True) 4 (some ⟨w2.heap.size, 0, none⟩) 1 (EV.cells x)) := (Rd.lit (w := w2) (t := 28) (size := 4) (n := 1) (xs := EV.cells x) rfl rfl rfl).mono (fun _ _ _ => trivial)
        clear ho2 HI x1
        go_wp2_with (at_builtin; refine wpList_append_entry rfl (.tmp 31) (.tmp 36) (t := 22) rfl rfl rfl oa1.out rfl ra1.out (by simp; omega) ba1.size ?_; intro A5 c5 w5 ho5 hb5 _; have hw5 := ba1.trans hb5)
        go_roundw
        case rel => exact ⟨i + 1, A5, c5, l ++ [x], true, hlt, by go_num, rfl, by simp, HD, HN, by simp; omega, ho5, hw5⟩
        case measure => simp [intOf]; omega
    · have e : i = M.length := by omega
      subst e
      rw [List.take_length] at hd hl
      have hs1 := hw1.size
      cases d
      · have HN : Hid (l ++ [v] = insE v M) := by
          show _ = _
          rw [insE_none hd.out.symm, hl.out]
          unfold midE
          rw [if_neg (by rw [← hd.out]; simp)]
        obtain ⟨q0, q1, q2, q3⟩ := HB.out wr hwr
        have ba1 : Below w1.heap.size w1 (wr.alloc (.cells #[.string v.p, .int .u64 v.v, .int .i64 v.k, .slice v.x.A v.x.l.length v.x.c] 28)) := hwr.alloc hwr.size _; have oa1 := Lib.hid (hor.below ((Below.refl _ wr).alloc (Nat.le_refl _) (.cells #[.string v.p, .int .u64 v.v, .int .i64 v.k, .slice v.x.A v.x.l.length v.x.c] 28))); have ra1 : Hid (Rd (wr.alloc (.cells #[.string v.p, .int .u64 v.v, .int .i64 v.k, .slice v.x.A v.x.l.length v.x.c] 28)) (fun _ => True) 4 (some ⟨wr.heap.size, 0, none⟩) 1 (EV.cells v)) := (Rd.lit (w := wr) (t := 28) (size := 4) (n := 1) (xs := EV.cells v) rfl rfl rfl).mono (fun _ _ _ => trivial)
        clear hl hd hor HI x1
        go_wp2_with (at_builtin; refine wpList_append_entry rfl (.tmp 40) (.tmp 42) (t := 22) rfl rfl rfl oa1.out rfl ra1.out (by simp; omega) ba1.size ?_; intro A5 c5 w5 ho5 hb5 _; have hw5 := ba1.trans hb5)
        go_ret
        exact ⟨⟨A5, c5, l ++ [v], by simp, HN, own_base ho5 (fun g hg => Nat.le_trans hs1 (ho5.lt _ hg).1)⟩, hw1.trans (hw5.mono hs1)⟩
      · have HN : Hid (l = insE v M) := by
          show _ = _
          rw [hl.out]
          unfold midE
          rw [if_pos hd.out.symm]
        clear hl hd HI x1
        go_wp2_with fail
        go_ret
        exact ⟨⟨A', c', l, rfl, HN, own_base hor (fun g hg => Nat.le_trans hs1 (hor.lt _ hg).1)⟩, hw1.trans (hwr.mono hs1)⟩

end Go.Proofs.Ytdnljmncdbcgeaa
