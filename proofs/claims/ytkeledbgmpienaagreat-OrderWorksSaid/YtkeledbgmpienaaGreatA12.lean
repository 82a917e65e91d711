/- merge.Verdict, tenderref25.Verdict; rows cloned. -/
import Derived.Test.YtkeledbgmpienaaGreatA11
import Derived.Laws.StructEq

namespace Go.Proofs.YtkeledbgmpienaaGreat
open Go.RowKit Go.WideShapes Go.ChangeShapes Go.ChangeAt

def verd (m t : Bool) (k o s l : Int) : Int :=
  if m = true ∧ t = true then (if k ≠ o then 5 else if k = 1 then (if s = l then 4 else 5) else 3) else if m = true then 1 else if t = true then 2 else 0

set_option maxHeartbeats 400000 in
theorem verdictR_any (p : ByteArray) (b : Int) (m t : Bool) (k o s l v : Int) (w : World) :
    Calls Tryz.prog 26 #[chV p b m t k o s l v] w fun e w' => e = .returned (.int .i64 (verd m t k o s l)) ∧ Below w.heap.size w w' := by
  cases m <;> cases t
  all_goals
    go_enter Tryz.func26, Tryz.ntmps26
    go_wp2
    all_goals
      go_ret
      exact ⟨ret_i (by grind [verd]), (by repeat (first | exact Below.refl _ _ | refine Below.alloc ?_ (by simp) _ | refine Below.drew ?_))⟩

theorem rv_one (l : List RV) : ∀ u ∈ l.flatMap RV.cells, u.oneCell' = true := by
  intro u hu
  obtain ⟨x, _, hx⟩ := List.mem_flatMap.1 hu
  simp only [RV.cells, List.mem_cons, List.not_mem_nil, or_false] at hx
  rcases hx with rfl | rfl | rfl | rfl | rfl <;> rfl
/-- one change, plainly -/
def kindP (T : List (List UInt8 × EP)) (p : List UInt8) : Int := ((getR T p).map (·.2.1)).getD 0
def chgV (T : List (List UInt8 × EP)) (mine theirs : List RV) (p : List UInt8) : CV :=
  ⟨⟨⟨p⟩⟩, kindP T p, (findRv ⟨⟨p⟩⟩ mine).isSome, (findRv ⟨⟨p⟩⟩ theirs).isSome, (findRv ⟨⟨p⟩⟩ mine).elim (kindP T p) (·.k), (findRv ⟨⟨p⟩⟩ theirs).elim (kindP T p) (·.k),
    (findRv ⟨⟨p⟩⟩ mine).elim 0 (·.z), (findRv ⟨⟨p⟩⟩ theirs).elim 0 (·.z),
    verd (findRv ⟨⟨p⟩⟩ mine).isSome (findRv ⟨⟨p⟩⟩ theirs).isSome ((findRv ⟨⟨p⟩⟩ mine).elim (kindP T p) (·.k)) ((findRv ⟨⟨p⟩⟩ theirs).elim (kindP T p) (·.k)) ((findRv ⟨⟨p⟩⟩ mine).elim 0 (·.z)) ((findRv ⟨⟨p⟩⟩ theirs).elim 0 (·.z))⟩
/-- all paths of rows, in order -/
def pathsR (l : List RV) : List (List UInt8) := keysR (theirsS (l.map RV.pv))
def chgS (T : List (List UInt8 × EP)) (mine theirs : List RV) : List CV := (pathsR (mine ++ theirs)).map (chgV T mine theirs)
theorem pathsR_mem (l : List RV) (p : List UInt8) : p ∈ pathsR l ↔ p ∈ l.map fun x => tl x.p := by
  unfold pathsR
  rw [theirs_mem, List.map_map]
  rfl
theorem pathsR_sort (l : List RV) : sortedS (pathsR l) := sortedS_keys (theirs_sort _)
theorem pathsR_len (l : List RV) : (pathsR l).length ≤ l.length := by
  unfold pathsR
  rw [keys_len]
  have := theirs_len (l.map RV.pv)
  rwa [List.length_map] at this
end Go.Proofs.YtkeledbgmpienaaGreat

/- book: Older. -/
namespace Go.Proofs.YtkeledbgmpienaaGreat
open Go.RowKit Go.Maps

theorem str_infoB : (Tryz.prog.info? 9).map (fun i => (i.zero, i.size, i.bytes)) = some (some (.string ⟨#[]⟩), 1, 16) := by kernel_rfl
end Go.Proofs.YtkeledbgmpienaaGreat

/- tenderref22: Older. -/
namespace Go.Proofs.YtkeledbgmpienaaGreat
open Go.RowKit Go.Maps

/-- append of texts -/
theorem wpList_append_sts {w : World} {ops : Array Oper} {rest : List Oper} {o : Oper} {a : Act} {Q : Exit → Act → World → Prop} (hgd : o.guard = none) (s x : Operand) {t : TypeId} (hu : Tryz.prog.underlying t = some (.slice 9))
    (ho : o.op = .call { callee := .builtin .append, args := #[s, x], argTypes := #[t, t] })
    {base : Nat} {A : Option Addr} {c n : Nat} {L : List (List UInt8)} {M : List (List UInt8)} {B : Option Addr} {d m : Nat} {Z : Nat → Prop} (hs : a.eval s = .slice A n c) (hn : n = L.length) (hown : w.ownsRow base 9 1 (.slice A n c) n (L.map stv)) (hx : a.eval x = .slice B m d) (hr : Rd w Z 1 B m (M.map stv))
    (hsum : L.length + M.length ≤ 1099511627776) (hbase : base ≤ w.heap.size)
    (h : ∀ (A' : Option Addr) (c' : Nat) (w' : World), w'.ownsRow base 9 1 (.slice A' (L ++ M).length c') (L ++ M).length ((L ++ M).map stv) → Below base w w' → w.grownBy w' (Value.slice A n c).ownBlock → ((Value.slice A' (L ++ M).length c').ownBlock = (Value.slice A n c).ownBlock ∨ (Value.slice A' (L ++ M).length c').ownBlock = some w.heap.size) → wpList Tryz.prog ops Q rest (a.put o.dst (.slice A' (L ++ M).length c')) w') : wpList Tryz.prog ops Q (o :: rest) a w := by
  obtain ⟨i0, hi0, hz0, hz1, hz2⟩ := info_parts str_infoB
  have hm : m = M.length := by have := hr.1; simp at this; omega
  subst hn hm
  refine wpList_append_any w hgd s x _ ho base 9 i0 _ 1 16 hu hi0 hz0 hz1 hz2 rfl (by omega) (.slice A L.length c) L.length (L.map stv) hs hown Z B M.length d (M.map stv) hx hr (fun u hu => by obtain ⟨y, _, rfl⟩ := List.mem_map.1 hu; rfl) (by simp only [maxLen]; omega) (by omega) hbase ?_
  intro v' w' h1 h2 h3
  rw [← List.length_append, ← List.map_append] at h1
  obtain ⟨A', c', rfl, _⟩ := own_form h1
  exact h A' c' w' h1 (grown_below h2 hbase (fun g e => (hown.lt g e).1)) h2 h3
theorem own_rd {w : World} {base : Nat} {A : Option Addr} {c : Nat} {l : List (List UInt8)} (h : w.ownsRow base 9 1 (.slice A l.length c) l.length (l.map stv)) : Rd w (fun b => ablk A = some b) 1 A l.length (l.map stv) := Rd.of_own h (fun _ hb _ => hb)

end Go.Proofs.YtkeledbgmpienaaGreat

/- tenderlaw28: rows of a tree against another one. -/
namespace Go.Proofs.YtkeledbgmpienaaGreat
open Go.RowKit Go.Maps

theorem at0_getL (T : PT) (p : List UInt8) : at0 T p = getL T p := rfl
/-- the rows of a tree against another one -/
def rowT (v : PT) (p : List UInt8) : RV := ⟨⟨⟨p⟩⟩, (getL v p).1, 0, 0, ((getL v p).2.length : Int)⟩
def rowsT (v z : PT) : List RV := (diffS v z).map (rowT v)
theorem diffT_len (v z : PT) : (diffS v z).length ≤ v.length + z.length := by
  unfold diffS
  refine Nat.le_trans (List.length_filter_le _ _) ?_
  rw [keys_len]
  have := union_len (keysR v ++ keysR z) _ rfl
  rw [List.length_append, keys_len, keys_len] at this
  omega

set_option maxRecDepth 100000 in
set_option maxHeartbeats 2000000 in
theorem rowsT_any (A B : Option Addr) (c d : Nat) (L M : List (List UInt8 × LV)) (w : World) (h : Its w A L) (h' : Its w B M) (hn : L.length + M.length ≤ 1000) (hp : ∀ p ∈ diffS (plainL L) (plainL M), p.length ≤ 1048576) :
    Calls Tryz.prog 9 #[.slice A L.length c, .slice B M.length d] w fun e w' => (∃ (A' : Option Addr) (c' : Nat) (R : List RV), e = .returned (.slice A' R.length c') ∧ Hid (R = rowsT (plainL L) (plainL M)) ∧ Row w' w.heap.size 70 5 A' R.length c' (R.flatMap RV.cells)) ∧ Below w.heap.size w w' := by
  obtain ⟨i0, hi0, hz0, hz1, hz2⟩ := info_parts row_info
  have HL := Lib.hid h
  have HD := Lib.hid (refDiff_any A B c d L M w h h' (by omega))
  have hdl := diffT_len (plainL L) (plainL M)
  have e1 : (plainL L).length = L.length := by unfold plainL; rw [List.length_map]
  have e2 : (plainL M).length = M.length := by unfold plainL; rw [List.length_map]
  rw [e1, e2] at hdl
  obtain ⟨RR, hRR⟩ : ∃ RR, RR = rowsT (plainL L) (plainL M) := ⟨_, rfl⟩
  have HRR := Lib.hid hRR
  rw [← hRR]
  have HP := Lib.hid hp
  clear h h' hp e1 e2 hRR
  go_enter Tryz.func9, Tryz.ntmps9
  go_wp2_with fail
  refine HD.out.mono ?_
  rintro e w1 ⟨⟨A1, c1, F, rfl, hF, ho1⟩, hb1⟩
  have HF := Lib.hid hF.out
  have HO1 := Lib.hid ho1
  have hFl : F.length ≤ 1000 := by rw [hF.out]; omega
  have HPF : Hid (∀ p ∈ F, p.length ≤ 1048576) := Lib.hid (fun p hp => HP.out p (by rw [← hF.out]; exact hp))
  clear hF ho1 HD HP hdl
  go_wp2_with fail
  go_loopw [5, 13] (fun ov iv wr => ∃ (i : Nat) (AO : Option Addr) (cO : Nat) (O : List RV), i ≤ F.length ∧ iv = .int .i64 (i : Int) ∧ ov = .slice AO O.length cO ∧ Hid (O = (F.take i).map (rowT (plainL L))) ∧ O.length ≤ i ∧ Row wr w1.heap.size 70 5 AO O.length cO (O.flatMap RV.cells) ∧ Below w1.heap.size w1 wr) (fun _ iv _ => F.length - (intOf iv).toNat)
  case atStart => exact ⟨0, none, 0, [], Nat.zero_le _, rfl, rfl, Lib.hid rfl, Nat.le_refl _, Row.none_ _ _ _ _, Below.refl _ _⟩
  case round =>
    obtain ⟨i, AO, cO, O, hi, rfl, rfl, hO, hOl, hrO, hb⟩ := hrel
    by_cases hlt : i < F.length
    · obtain ⟨p, hpe⟩ : ∃ p, p = F[i] := ⟨_, rfl⟩
      have hpl : p.length ≤ 1048576 := HPF.out p (by rw [hpe]; exact List.getElem_mem hlt)
      have HO2 : Hid (O ++ [rowT (plainL L) p] = (F.take (i + 1)).map (rowT (plainL L))) := Lib.hid (by
        rw [List.take_succ_eq_append_getElem hlt, List.map_append, ← hO.out, ← hpe]; rfl)
      obtain ⟨b, off, rfl, _, hbb, c0⟩ := ((own_rd HO1.out).below hb).atm hlt
      rw [← hpe] at c0
      simp only [stv] at c0
      have hwr := hb1.trans (hb.mono hb1.size)
      have HG := Lib.hid (refGetO_any A c L ⟨⟨⟨p⟩⟩, 0, false, false, 0, 0, 0, 0, 0⟩ wr (HL.out.below hwr) (by show p.length ≤ _; exact hpl))
      rw [show pL ⟨⟨⟨p⟩⟩, 0, false, false, 0, 0, 0, 0, 0⟩ = p from rfl] at HG
      have HrO := Lib.hid hrO
      clear hpe hO hrO hbb
      go_wp2_with fail
      refine HG.out.mono ?_
      rintro e w2 ⟨bA, bc, bl, rfl, hbl, _, hble, hb2⟩
      have HRW : Hid (rowT (plainL L) p = ⟨⟨⟨p⟩⟩, (getL (plainL L) p).1, 0, 0, (bl.length : Int)⟩) := Lib.hid (by unfold rowT; rw [hbl.out])
      have hw2 := hb.trans (hb2.mono hb.size)
      have ba : Below w2.heap.size w2 ((w2.alloc (.cells #[.int .i64 (getL (plainL L) p).1, .slice bA bl.length bc] 35)).alloc (.cells #[.string ⟨⟨p⟩⟩, .int .i64 (getL (plainL L) p).1, .int .u64 0, .int .u64 0, .int .i64 (bl.length : Int)] 70)) := ((Below.refl _ _).alloc (Nat.le_refl _) _).alloc (by simp) _
      have HRO := Lib.hid ((HrO.out.below hb2).below ba)
      have HRX : Hid (Rd ((w2.alloc (.cells #[.int .i64 (getL (plainL L) p).1, .slice bA bl.length bc] 35)).alloc (.cells #[.string ⟨⟨p⟩⟩, .int .i64 (getL (plainL L) p).1, .int .u64 0, .int .u64 0, .int .i64 (bl.length : Int)] 70)) (fun b => (w2.alloc (.cells #[.int .i64 (getL (plainL L) p).1, .slice bA bl.length bc] 35)).heap.size ≤ b) 5 (some ⟨w2.heap.size + 1, 0, none⟩) 1 (RV.cells (rowT (plainL L) p))) := Lib.hid (by rw [HRW.out]; exact Rd.lit (by rfl) rfl (by simp))
      have hb6 := hw2.trans (ba.mono hw2.size)
      have hsz := hb6.size
      clear hbl HRW HrO hb2 HG ba
      go_wp2_with (at_builtin; refine wpList_append_row _ rfl (.tmp 20) (.tmp 28) 44 rfl w1.heap.size 70 i0 _ 5 48 Tryz.underlying44 hi0 hz0 hz1 hz2 rfl (by omega) rfl HRO.out rfl HRX.out (fun u hu => rv_one [rowT (plainL L) p] u (by simpa using hu)) (by simp only [maxLen]; omega) (by omega) hsz ?_; intro A7 c7 w7 h71 h72 h73)
      have hr7 : Below w1.heap.size w1 w7 := hb6.trans ((Fr.of_grown h72 (S := fun b => ablk AO = some b) (fun _ _ e => e)).below hsz (fun k hk e => by have := (HRO.out.lt k e).1; omega))
      have HNEW : Hid (Row w7 w1.heap.size 70 5 A7 (O ++ [rowT (plainL L) p]).length c7 ((O ++ [rowT (plainL L) p]).flatMap RV.cells)) := Lib.hid (by
        rw [List.length_append, List.flatMap_append, List.flatMap_cons, List.flatMap_nil, List.append_nil]; exact h71)
      clear h71 h72 h73 HRO HRX
      go_wp2_with fail
      go_roundw
      case rel => exact ⟨i + 1, A7, c7, O ++ [rowT (plainL L) p], hlt, by go_num, by rw [List.length_append]; rfl, HO2, by rw [List.length_append]; simp; omega, HNEW.out, hr7⟩
      case measure => simp [intOf]; omega
    · have e : i = F.length := by omega
      have HOE : Hid (O = RR) := Lib.hid (by rw [hO.out, e, List.take_length, HRR.out, HF.out]; rfl)
      have HFI : Hid (Row wr w.heap.size 70 5 AO O.length cO (O.flatMap RV.cells)) := Lib.hid (hrO.rebase (fun g hg => Nat.le_trans hb1.size (hrO.lt g hg).1))
      have hfin := hb1.trans (hb.mono hb1.size)
      clear hO hrO
      go_wp2_with fail
      go_ret
      exact ⟨⟨AO, cO, O, rfl, HOE, HFI.out⟩, hfin⟩

end Go.Proofs.YtkeledbgmpienaaGreat

/- What OrderWorks hands to Apply: plain. -/
namespace Go.Proofs.YtkeledbgmpienaaGreat
open Go.RowKit Go.Maps

theorem diffT_mem (S T : PT) (p : List UInt8) : p ∈ diffS S T ↔ getL S p ≠ getL T p := by
  unfold diffS
  rw [List.mem_filter, (union_keys _).2]
  unfold diffB
  rw [at0_getL, at0_getL]
  constructor
  · rintro ⟨_, h⟩
    simpa using h
  · intro h
    refine ⟨?_, by simpa using h⟩
    rw [List.mem_append]
    rcases hS : getR S p with _ | a
    · rcases hT : getR T p with _ | b
      · exact absurd (by rw [getL_none hS, getL_none hT]) h
      · exact .inr (by rw [← getR_isSome, hT]; rfl)
    · exact .inl (by rw [← getR_isSome, hS]; rfl)
theorem find_rows (v : PT) (l : List (List UInt8)) (p : List UInt8) : findRv ⟨⟨p⟩⟩ (l.map (rowT v)) = if p ∈ l then some (rowT v p) else none := by
  unfold findRv
  by_cases hp : p ∈ l
  · rw [if_pos hp]
    rcases hi : idxR ⟨⟨p⟩⟩ (l.map (rowT v)) with _ | i
    · exfalso
      unfold idxR at hi
      rw [List.findIdx?_eq_none_iff] at hi
      have := hi (rowT v p) (List.mem_map.2 ⟨p, hp, rfl⟩)
      simp [rowT] at this
    · obtain ⟨h1, h2⟩ := idxR_get hi
      show (l.map (rowT v))[i]? = _
      rw [List.getElem?_eq_getElem h1]
      rw [List.getElem_map] at h2 ⊢
      have h3 : l[i]'(by simpa using h1) = p := by
        have h4 : (⟨⟨l[i]'(by simpa using h1)⟩⟩ : ByteArray) = ⟨⟨p⟩⟩ := h2
        injection h4 with h4
        injection h4
      rw [h3]
  · rw [if_neg hp]
    have : idxR ⟨⟨p⟩⟩ (l.map (rowT v)) = none := idxR_none (fun x hx e => by
      obtain ⟨q, hq, rfl⟩ := List.mem_map.1 hx
      have h4 : (⟨⟨q⟩⟩ : ByteArray) = ⟨⟨p⟩⟩ := e
      injection h4 with h4
      injection h4 with h4
      exact hp (h4 ▸ hq))
    rw [this]; rfl
/-- what is looked at -/
def lookV (v w : PT) (x : CV) : CV := if x.v = 4 then { x with v := if getL v (pL x) = getL w (pL x) then 3 else 5 } else x
theorem lookV_p (v w : PT) (x : CV) : pL (lookV v w x) = pL x := by unfold lookV; split <;> rfl
theorem chg_at {v w z : PT} {Tb : List (List UInt8 × EP)} (hb : ∀ p, kindP Tb p = (getL z p).1) (p : List UInt8) :
    chgV Tb (rowsT v z) (rowsT w z) p = ⟨⟨⟨p⟩⟩, (getL z p).1, decide (getL v p ≠ getL z p), decide (getL w p ≠ getL z p), (getL v p).1, (getL w p).1, if getL v p ≠ getL z p then ((getL v p).2.length : Int) else 0, if getL w p ≠ getL z p then ((getL w p).2.length : Int) else 0,
      verd (decide (getL v p ≠ getL z p)) (decide (getL w p ≠ getL z p)) (getL v p).1 (getL w p).1 (if getL v p ≠ getL z p then ((getL v p).2.length : Int) else 0) (if getL w p ≠ getL z p then ((getL w p).2.length : Int) else 0)⟩ := by
  have e1 : findRv ⟨⟨p⟩⟩ (rowsT v z) = if getL v p ≠ getL z p then some (rowT v p) else none := by
    unfold rowsT; rw [find_rows]; simp only [diffT_mem]
  have e2 : findRv ⟨⟨p⟩⟩ (rowsT w z) = if getL w p ≠ getL z p then some (rowT w p) else none := by
    unfold rowsT; rw [find_rows]; simp only [diffT_mem]
  unfold chgV
  rw [e1, e2, hb]
  by_cases h1 : getL v p = getL z p <;> by_cases h2 : getL w p = getL z p <;> simp [h1, h2, rowT]
theorem lookV_at {v w z : PT} {Tb : List (List UInt8 × EP)} (hv : TreeOk v) (hw : TreeOk w) (hb : ∀ p, kindP Tb p = (getL z p).1) (p : List UInt8) (hp : getL v p ≠ getL z p ∨ getL w p ≠ getL z p) :
    ∃ x, x = lookV v w (chgV Tb (rowsT v z) (rowsT w z) p) ∧ pL x = p ∧ x.k = (getL v p).1 ∧ x.o = (getL w p).1 ∧ (x.v = 1 ∨ x.v = 2 ∨ x.v = 3 ∨ x.v = 5) ∧ (x.v = 3 → getL v p = getL w p) := by
  refine ⟨_, rfl, ?_⟩
  rw [chg_at hb]
  by_cases h1 : getL v p = getL z p
  · by_cases h2 : getL w p = getL z p
    · exact absurd hp (by simp [h1, h2])
    · unfold lookV
      simp [h1, h2, verd, pL]
  · by_cases h2 : getL w p = getL z p
    · unfold lookV
      simp [h1, h2, verd, pL]
    · by_cases hk : (getL v p).1 = (getL w p).1
      · by_cases hk1 : (getL w p).1 = 1
        · by_cases hl : (getL v p).2.length = (getL w p).2.length
          · unfold lookV
            simp [h1, h2, verd, pL, hk, hk1, hl]
            by_cases he : getL v p = getL w p <;> simp [he]
          · have hl' : ¬ ((getL v p).2.length : Int) = ((getL w p).2.length : Int) := by omega
            clear hl
            generalize ((getL v p).2.length : Int) = lv at *
            generalize ((getL w p).2.length : Int) = lw at *
            unfold lookV
            simp [h1, h2, verd, pL, hk, hk1, hl']
        · have he : getL v p = getL w p := by
            have c1 := hv.checkL p
            have c2 := hw.checkL p
            have hz : ∀ (l : LP), l.1 ≠ 1 → checkN l.1 l.2.length = 0 → l.2 = [] := by
              intro l h3 h4
              unfold checkN at h4
              rw [if_neg h3] at h4
              split at h4
              · split at h4
                · exact List.eq_nil_of_length_eq_zero (by assumption)
                · simp at h4
              · simp at h4
            have d1 := hz _ (by rw [hk]; exact hk1) c1
            have d2 := hz _ hk1 c2
            exact Prod.ext hk (d1.trans d2.symm)
          unfold lookV
          simp [h1, h2, verd, pL, hk, hk1]
          exact he
      · unfold lookV
        simp [h1, h2, verd, pL, hk]
theorem sorted_nodup {F : List (List UInt8)} (h : sortedS F) : F.Nodup := by
  refine List.Pairwise.imp ?_ h
  intro a b hab e
  rw [e, cmpT_self] at hab
  omega
/-- the changes that OrderWorks closes -/
def worksS (v w z : PT) (Tb : List (List UInt8 × EP)) : List CV := (chgS Tb (rowsT v z) (rowsT w z)).map (lookV v w)
theorem works_glue {v w z : PT} {Tb : List (List UInt8 × EP)} {x : List CV} (hv : TreeOk v) (hw : TreeOk w) (hz : TreeOk z) (hb : ∀ p, kindP Tb p = (getL z p).1) (hc : Closes (worksS v w z Tb) x) : WorksL v w x := by
  have hmem : ∀ p, p ∈ pathsR (rowsT v z ++ rowsT w z) ↔ (getL v p ≠ getL z p ∨ getL w p ≠ getL z p) := by
    intro p
    rw [pathsR_mem, List.map_append, List.mem_append]
    have hr : ∀ t : PT, p ∈ (rowsT t z).map (fun x => tl x.p) ↔ getL t p ≠ getL z p := by
      intro t
      unfold rowsT
      rw [List.map_map]
      have : ((fun x => tl x.p) ∘ rowT t) = id := by funext q; rfl
      rw [this, List.map_id, diffT_mem]
    rw [hr, hr]
  have hpl : (worksS v w z Tb).map pL = pathsR (rowsT v z ++ rowsT w z) := by
    unfold worksS chgS
    rw [List.map_map, List.map_map]
    have : ∀ p, ((pL ∘ lookV v w) ∘ chgV Tb (rowsT v z) (rowsT w z)) p = p := by
      intro p
      show pL (lookV v w (chgV Tb (rowsT v z) (rowsT w z) p)) = p
      rw [lookV_p]; rfl
    rw [List.map_congr_left (fun p _ => this p), List.map_id']
  have hxp : x.map pL = (worksS v w z Tb).map pL := by
    have := hc.1.paths
    have h2 := congrArg (List.map (fun b : ByteArray => b.data.toList)) this
    rw [List.map_map, List.map_map] at h2
    exact h2
  have hel : ∀ a ∈ worksS v w z Tb, (getL v (pL a) ≠ getL z (pL a) ∨ getL w (pL a) ≠ getL z (pL a)) ∧ a.k = (getL v (pL a)).1 ∧ a.o = (getL w (pL a)).1 ∧ (a.v = 1 ∨ a.v = 2 ∨ a.v = 3 ∨ a.v = 5) ∧ (a.v = 3 → getL v (pL a) = getL w (pL a)) := by
    intro a ha
    have hp : pL a ∈ (worksS v w z Tb).map pL := List.mem_map.2 ⟨a, ha, rfl⟩
    rw [hpl, hmem] at hp
    unfold worksS chgS at ha
    rw [List.map_map] at ha
    obtain ⟨q, hq, e⟩ := List.mem_map.1 ha
    obtain ⟨y, e2, h1, h2, h3, h4, h5⟩ := lookV_at hv hw hb q ((hmem q).1 hq)
    have e3 : a = y := e.symm.trans e2.symm
    rw [← e3] at h1 h2 h3 h4 h5
    rw [h1]
    exact ⟨by rw [← h1]; exact hp, h2, h3, h4, h5⟩
  have hle := hc.1.le
  have hat : ∀ y ∈ x, ∃ a ∈ worksS v w z Tb, y = a ∨ y = a.conf := by
    intro y hy
    obtain ⟨i, hi⟩ := List.mem_iff_getElem?.1 hy
    have hl : i < (worksS v w z Tb).length := by rw [hle.1]; exact (List.getElem?_eq_some_iff.1 hi).1
    exact ⟨_, List.getElem_mem hl, hle.2 i _ _ (List.getElem?_eq_getElem hl) hi⟩
  refine ⟨?_, ?_, ?_, ?_, ?_, hc.2, ?_⟩
  · rw [hxp, hpl]; exact sorted_nodup (pathsR_sort _)
  · intro y hy
    obtain ⟨a, ha, e | e⟩ := hat y hy
    · rw [e]; exact ⟨(hel a ha).2.1, (hel a ha).2.2.1⟩
    · rw [e]; exact ⟨(hel a ha).2.1, (hel a ha).2.2.1⟩
  · intro y hy
    obtain ⟨a, ha, e | e⟩ := hat y hy
    · rw [e]; exact (hel a ha).2.2.2.1
    · rw [e]; exact .inr (.inr (.inr rfl))
  · intro y hy h3
    obtain ⟨a, ha, e | e⟩ := hat y hy
    · rw [e] at h3 ⊢; exact (hel a ha).2.2.2.2 h3
    · rw [e] at h3; cases h3
  · intro p hp
    have hp2 : p ∈ x.map pL := by
      rw [hxp, hpl, hmem]
      by_cases h1 : getL v p = getL z p
      · exact .inr (fun e => hp (h1.trans e.symm))
      · exact .inl h1
    obtain ⟨y, hy, e⟩ := List.mem_map.1 hp2
    refine ⟨y, hy, e, fun h3 => ?_⟩
    obtain ⟨a, ha, e2 | e2⟩ := hat y hy
    · have := (hel a ha).2.2.2.2 (by rw [← e2]; exact h3)
      rw [← e2, e] at this
      exact hp this
    · rw [e2] at h3; cases h3
  · intro y hy
    obtain ⟨a, ha, e⟩ := hat y hy
    have hpa : pL y = pL a := by rcases e with e | e <;> rw [e]; rfl
    have h1 := (hel a ha).1
    rw [hpa]
    have hgood : ∀ t : PT, TreeOk t → ∀ q, (getL t q).1 ≠ 0 → goodB q = true := fun t ht q hq => by
      have := getL_mem hq
      unfold keysR at this
      obtain ⟨u, hu, rfl⟩ := List.mem_map.1 this
      exact (ht.good u hu).1
    have hz2 : ∀ t : PT, TreeOk t → getL t (pL a) ≠ getL z (pL a) → goodB (pL a) = true := fun t ht hne => by
      by_cases h0 : (getL t (pL a)).1 = 0
      · by_cases h02 : (getL z (pL a)).1 = 0
        · exact absurd ((ht.zero h0).2.trans (hz.zero h02).2.symm) hne
        · exact hgood z hz _ h02
      · exact hgood t ht _ h0
    rcases h1 with h1 | h1
    · exact hz2 v hv h1
    · exact hz2 w hw h1
/-- the book of what was agreed on -/
def agB : Nat → PT → List (List UInt8 × EP) → List (List UInt8 × EP)
  | _, [], acc => acc
  | n, x :: l, acc => agB (n + 1) l (putP acc x.1 (1048576 + (n : Int) + 1, x.2.1, x.2.2)).1
theorem agB_kind : ∀ (l : PT) (n : Nat) (acc : List (List UInt8 × EP)), (∀ x ∈ l, userB x.1 = true ∧ checkN x.2.1 x.2.2.length = 0) → (keysR l).Nodup → (∀ x ∈ l, getR acc x.1 = none) → n + l.length ≤ 1000 → acc.length + l.length ≤ 200 →
    ∀ p, kindP (agB n l acc) p = if p ∈ keysR l then (getL l p).1 else kindP acc p
  | [], n, acc, _, _, _, _, _, p => by simp [agB, keysR]
  | x :: l, n, acc, h1, h2, h3, h4, h5, p => by
    obtain ⟨k, q, d⟩ : ∃ k q, (x.1 = k ∧ x.2 = q) := ⟨_, _, rfl, rfl⟩
    have hc := h1 x (by simp)
    have hn := h3 x (by simp)
    rw [List.length_cons] at h4 h5
    unfold keysR at h2
    rw [List.map_cons, List.nodup_cons] at h2
    have hput : putP acc x.1 (1048576 + (n : Int) + 1, x.2.1, x.2.2) = (putR acc x.1 (1048576 + (n : Int) + 1, x.2.1, x.2.2), 0) := by
      have hchk : checkP x.1 (1048576 + (n : Int) + 1, x.2.1, x.2.2) = 0 := by
        unfold checkP checkE
        rw [if_neg (by rw [hc.1]; decide), if_neg (by
          have : isV (1048576 + (n : Int) + 1) = true := by
            unfold isV
            rw [goodV_iff]
            omega
          rw [this]; decide)]
        exact hc.2
      unfold putP putB
      rw [hchk, if_neg (by decide), hn, if_neg (by simp; omega), if_neg (by simp; omega)]
    show kindP (agB (n + 1) l (putP acc x.1 (1048576 + (n : Int) + 1, x.2.1, x.2.2)).1) p = _
    rw [hput]
    have hlen : (putR acc x.1 (1048576 + (n : Int) + 1, x.2.1, x.2.2)).length ≤ acc.length + 1 := put_len_le _ _ _
    rw [agB_kind l (n + 1) _ (fun y hy => h1 y (by simp [hy])) h2.2 (fun y hy => by
      rw [getR_put, if_neg (fun e => h2.1 (List.mem_map.2 ⟨y, hy, e⟩))]
      exact h3 y (by simp [hy])) (by omega) (Nat.le_trans (Nat.add_le_add_right hlen _) (by omega)) p]
    have hkc : p ∈ keysR (x :: l) ↔ p = x.1 ∨ p ∈ keysR l := by unfold keysR; rw [List.map_cons, List.mem_cons]
    by_cases hp : p ∈ keysR l
    · have hne : ¬ x.1 = p := fun e => h2.1 (by rw [e]; exact hp)
      rw [if_pos hp, if_pos (hkc.2 (.inr hp))]
      unfold getL
      rw [getR_cons, if_neg hne]
    · rw [if_neg hp]
      by_cases e : p = x.1
      · rw [if_pos (hkc.2 (.inl e))]
        unfold kindP getL
        rw [getR_put, if_pos e, getR_cons, if_pos e.symm]; rfl
      · rw [if_neg (fun h => (hkc.1 h).elim e hp)]
        unfold kindP
        rw [getR_put, if_neg e]
theorem agB_all {z : PT} (hz : TreeOk z) (hu : ∀ x ∈ z, userB x.1 = true) (p : List UInt8) : kindP (agB 0 z []) p = (getL z p).1 := by
  have hl := hz.len
  rw [agB_kind z 0 [] (fun x hx => ⟨hu x hx, (hz.good x hx).2.2⟩) hz.sort.nodup (fun _ _ => rfl) (by omega) (by simp; omega) p]
  by_cases hp : p ∈ keysR z
  · rw [if_pos hp]
  · rw [if_neg hp]
    have : getR z p = none := by
      rcases hg : getR z p with _ | a
      · rfl
      · exact absurd (by rw [← getR_isSome, hg]; rfl) hp
    rw [getL_none this]; rfl
end Go.Proofs.YtkeledbgmpienaaGreat

/- Sizes and stores for OrderWorks. -/
namespace Go.Proofs.YtkeledbgmpienaaGreat
open Go.RowKit Go.Maps

theorem diff_good {S T : PT} (hs : TreeOk S) (ht : TreeOk T) {p : List UInt8} (h : p ∈ diffS S T) : goodB p = true := by
  rw [diffT_mem] at h
  have hgood : ∀ t : PT, TreeOk t → (getL t p).1 ≠ 0 → goodB p = true := fun t ht hq => by
    have := getL_mem hq
    unfold keysR at this
    obtain ⟨u, hu, rfl⟩ := List.mem_map.1 this
    exact (ht.good u hu).1
  by_cases h0 : (getL S p).1 = 0
  · by_cases h02 : (getL T p).1 = 0
    · exact absurd ((hs.zero h0).2.trans (ht.zero h02).2.symm) h
    · exact hgood T ht h02
  · exact hgood S hs h0
theorem diff_small {S T : PT} (hs : TreeOk S) (ht : TreeOk T) : ∀ p ∈ diffS S T, p.length ≤ 1048576 := fun p hp => by
  have := goodB_len (diff_good hs ht hp)
  omega
theorem rowsT_ok {v z : PT} (hv : TreeOk v) (hz : TreeOk z) : (∀ x ∈ rowsT v z, x.p.size ≤ 1048576 ∧ 0 ≤ x.v ∧ x.v < 18446744073709551616) ∧ (rowsT v z).length ≤ 256 := by
  refine ⟨fun x hx => ?_, ?_⟩
  · obtain ⟨p, hp, rfl⟩ := List.mem_map.1 hx
    exact ⟨diff_small hv hz p hp, by show (0 : Int) ≤ 0; omega, by show (0 : Int) < _; omega⟩
  · unfold rowsT
    rw [List.length_map]
    have h1 := diffT_len v z
    have h2 := hv.len
    have h3 := hz.len
    omega
theorem chgW_len {v w z : PT} (hv : TreeOk v) (hw : TreeOk w) (hz : TreeOk z) (Tb : List (List UInt8 × EP)) : (chgS Tb (rowsT v z) (rowsT w z)).length ≤ 512 := by
  unfold chgS
  rw [List.length_map]
  have h1 := pathsR_len (rowsT v z ++ rowsT w z)
  rw [List.length_append] at h1
  have h2 := (rowsT_ok hv hz).2
  have h3 := (rowsT_ok hw hz).2
  omega
theorem chgW_p {v w z : PT} (hv : TreeOk v) (hw : TreeOk w) (hz : TreeOk z) (Tb : List (List UInt8 × EP)) : ∀ x ∈ chgS Tb (rowsT v z) (rowsT w z), x.p.size ≤ 1048576 := by
  intro o ho
  obtain ⟨p, hp, rfl⟩ := List.mem_map.1 ho
  rw [pathsR_mem] at hp
  obtain ⟨x, hx, rfl⟩ := List.mem_map.1 hp
  have h1 : x.p.size ≤ 1048576 := by
    rcases List.mem_append.1 hx with hx | hx
    · exact ((rowsT_ok hv hz).1 x hx).1
    · exact ((rowsT_ok hw hz).1 x hx).1
  show (tl x.p).length ≤ _
  rw [tl_len]; exact h1
def CV.setv (x : CV) (v : Int) : CV := { x with v := v }
theorem ch_putv (v : Int) : ∀ (l : List CV) (i : Nat) (x : CV), l[i]? = some x → (l.flatMap CV.cells).set (i * 9 + 8) (.int .i64 v) = (l.set i (x.setv v)).flatMap CV.cells
  | a :: l, 0, x, h => by
    simp at h
    subst h
    simp [CV.cells, CV.setv]
  | a :: l, i + 1, x, h => by
    have ih := ch_putv v l i x (by simpa using h)
    rw [List.flatMap_cons, List.set_cons_succ, List.flatMap_cons, ← ih, List.set_append_right _ _ (by rw [ch_len, Nat.add_mul]; omega), ch_len]
    congr 2
    omega
theorem RowC.putv {w : World} {base g off c : Nat} {X : List CV} {i : Nat} {x : CV} (h : RowC w base (some ⟨g, off, none⟩) c X) (hi : X[i]? = some x) (v : Int) : RowC (w.setCell ⟨g, off + i * 9 + 8, none⟩ (.int .i64 v)) base (some ⟨g, off, none⟩) c (X.set i (x.setv v)) := by
  have h1 := Row.put h (i * 9 + 8) (.int .i64 v)
  rw [ch_putv v X i x hi, ← Nat.add_assoc] at h1
  unfold RowC
  rw [List.length_set]
  exact h1
theorem lookV_no {v w : PT} {x : CV} (h : x.v ≠ 4) : lookV v w x = x := by unfold lookV; rw [if_neg h]
theorem lookV_eq {v w : PT} {x : CV} (h : x.v = 4) (e : getL v (pL x) = getL w (pL x)) : lookV v w x = x.setv 3 := by unfold lookV; rw [if_pos h, if_pos e]; rfl
theorem lookV_ne {v w : PT} {x : CV} (h : x.v = 4) (e : getL v (pL x) ≠ getL w (pL x)) : lookV v w x = x.setv 5 := by unfold lookV; rw [if_pos h, if_neg e]; rfl
/-- the first i of them looked at -/
def lookI (v w : PT) (L : List CV) (i : Nat) : List CV := (L.take i).map (lookV v w) ++ L.drop i
theorem lookI_len (v w : PT) (L : List CV) (i : Nat) : (lookI v w L i).length = L.length := by
  unfold lookI; rw [List.length_append, List.length_map, ← List.length_append, List.take_append_drop]
theorem lookI_get {v w : PT} {L : List CV} {i : Nat} {x : CV} (h : L[i]? = some x) : (lookI v w L i)[i]? = some x := by
  have hl := (List.getElem?_eq_some_iff.1 h).1
  unfold lookI
  rw [List.getElem?_append_right (by rw [List.length_map, List.length_take]; omega), List.length_map, List.length_take, Nat.min_eq_left (by omega), Nat.sub_self, List.getElem?_drop, Nat.add_zero]
  exact h
theorem lookI_step {v w : PT} {L : List CV} {i : Nat} {x y : CV} (h : L[i]? = some x) (e : lookV v w x = y) : lookI v w L (i + 1) = (lookI v w L i).set i y := by
  obtain ⟨hl, hx⟩ := List.getElem?_eq_some_iff.1 h
  unfold lookI
  rw [List.take_succ_eq_append_getElem hl, List.map_append, List.drop_eq_getElem_cons hl, hx, List.set_append_right _ _ (by rw [List.length_map, List.length_take]; omega), List.length_map, List.length_take, Nat.min_eq_left (by omega), Nat.sub_self, List.set_cons_zero, List.append_assoc]
  show _ ++ ([lookV v w x] ++ _) = _
  rw [e]; rfl
theorem lookI_all (v w : PT) (L : List CV) : lookI v w L L.length = L.map (lookV v w) := by
  unfold lookI; rw [List.take_length, List.drop_length, List.append_nil]
end Go.Proofs.YtkeledbgmpienaaGreat

/- merge: Changes. -/
namespace Go.Proofs.YtkeledbgmpienaaGreat
open Go.RowKit Go.Maps

/-- changes told: a row of the call's own -/
def ChOwn (w : World) (base : Nat) (e : Ending) (l : List CV) : Prop :=
  ∃ (A : Option Addr) (c : Nat) (l' : List CV), e = .returned (.slice A l'.length c) ∧ Hid (l' = l) ∧ Row w base 47 9 A l'.length c (l'.flatMap CV.cells)
/-- append of one change -/
theorem wpList_append_ch {w : World} {ops : Array Oper} {rest : List Oper} {o : Oper} {a : Act} {Q : Exit → Act → World → Prop} (hgd : o.guard = none) (s x : Operand) {t : TypeId} (hu : Tryz.prog.underlying t = some (.slice 47))
    (ho : o.op = .call { callee := .builtin .append, args := #[s, x], argTypes := #[t, t] })
    {base : Nat} {A : Option Addr} {c : Nat} {L : List CV} {y : CV} {g : Nat} (hs : a.eval s = .slice A L.length c) (hown : Row w base 47 9 A L.length c (L.flatMap CV.cells)) (hx : a.eval x = .slice (some ⟨g, 0, none⟩) 1 1) (hr : Rd w (fun _ => True) 9 (some ⟨g, 0, none⟩) 1 (CV.cells y))
    (hsum : L.length + 1 ≤ 1099511627776) (hbase : base ≤ w.heap.size)
    (h : ∀ (A' : Option Addr) (c' : Nat) (w' : World), Row w' base 47 9 A' (L ++ [y]).length c' ((L ++ [y]).flatMap CV.cells) → Below base w w' → wpList Tryz.prog ops Q rest (a.put o.dst (.slice A' (L.length + 1) c')) w') : wpList Tryz.prog ops Q (o :: rest) a w := by
  obtain ⟨i0, hi0, hz0, hz1, hz2⟩ := info_parts ch_info
  refine wpList_append_row w hgd s x t ho base 47 i0 _ 9 72 hu hi0 hz0 hz1 hz2 rfl (by omega) hs hown hx hr (fun u hu => ch_one [y] u (by simpa using hu)) (by simp only [maxLen]; omega) (by omega) hbase ?_
  intro A' c' w' h1 h2 h3
  refine h A' c' w' ?_ (grown_below h2 hbase (fun g e => (hown.lt g e).1))
  rw [List.length_append, List.flatMap_append, List.flatMap_cons, List.flatMap_nil, List.append_nil]
  exact h1
end Go.Proofs.YtkeledbgmpienaaGreat

/- BookPlays is true for every input: whatever entries come, one after the other, what each is answered, and what the book has, whole and in rows, is the document's. No condition beyond the row's own. -/
namespace Go.Proofs.YtkeledbgmpienaaGreat
open Go.RowKit Go.Maps

theorem OwRw.at_ {w : World} {base : Nat} {A : Option Addr} {c : Nat} {l : List (List UInt8 × EP)} {i : Nat} (h : OwRw w base A c l) (hi : i < l.length) :
    ∃ b off, A = some ⟨b, off, none⟩ ∧ b < w.heap.size ∧ w.cell? ⟨b, off + i * 5, none⟩ = some (.string ⟨⟨l[i].1⟩⟩) ∧ w.cell? ⟨b, off + i * 5 + 1, none⟩ = some (.int .i64 l[i].2.2.1) ∧ w.cell? ⟨b, off + i * 5 + 2, none⟩ = some (.int .u64 l[i].2.1) ∧ w.cell? ⟨b, off + i * 5 + 3, none⟩ = some (.int .u64 0) ∧ w.cell? ⟨b, off + i * 5 + 4, none⟩ = some (.int .i64 (l[i].2.2.2.length : Int)) := by
  have hr : Rd w (fun _ => True) 5 A l.length (l.flatMap rowC) := Rd.of_own h (fun _ _ _ => trivial)
  obtain ⟨b, off, hA, _, hb, hc⟩ := hr.2 (by omega)
  have hg : ∀ j, j < 5 → (l.flatMap rowC)[i * 5 + j]? = (rowC l[i])[j]? := fun j hj => flat_get (k := 5) rowC_len l i j hi hj
  refine ⟨b, off, hA, hb, hc _ _ (hg 0 (by omega)), ?_, ?_, ?_, ?_⟩
  · rw [Nat.add_assoc]; exact hc _ _ (hg 1 (by omega))
  · rw [Nat.add_assoc]; exact hc _ _ (hg 2 (by omega))
  · rw [Nat.add_assoc]; exact hc _ _ (hg 3 (by omega))
  · rw [Nat.add_assoc]; exact hc _ _ (hg 4 (by omega))
theorem OwRw.below {w w' : World} {base : Nat} {A : Option Addr} {c : Nat} {l : List (List UInt8 × EP)} (h : OwRw w base A c l) (k : Below w.heap.size w w') : OwRw w' base A c l := own_below h k
/-- the first entry of a path, plainly -/
theorem find_ep (p : ByteArray) : ∀ M : List EV, (findE p M).pl = (tl p, ((getR (M.map EV.pl) (tl p)).getD (0, 0, [])))
  | [] => rfl
  | x :: M => by
    rw [List.map_cons, getR_cons]
    unfold findE
    by_cases h : x.p = p
    · rw [if_pos h, if_pos (by rw [← h]; rfl)]
      rw [← h]
      rfl
    · rw [if_neg h, if_neg (show ¬ x.pl.1 = tl p from fun e => h (tl_inj e)), find_ep p M]
end Go.Proofs.YtkeledbgmpienaaGreat
